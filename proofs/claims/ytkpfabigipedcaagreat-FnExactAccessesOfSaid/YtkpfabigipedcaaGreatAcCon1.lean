import Derived.Test.YtkpfabigipedcaaGreatAcMath1
import Derived.Test.YtkpfabigipedcaaGreatAcSeat
import Derived.Test.YtkpfabigipedcaaGreatAcVFoc
namespace Go.V
open Go.Proofs
open IntKind (wrap)
set_option linter.unusedVariables false
set_option linter.unusedSimpArgs false
set_option maxRecDepth 100000
def impl_within.vc (x0 x1 x2 : Int) (w : World) (K : VK) : Prop :=
  bcase (decide (x0 ≥ x1)) (K (.bool (decide (x0 ≤ x2))) w) (K (.bool false) w)

def impl_within.ann : Ann := (.seq .l (.seq .l .l))

theorem impl_within.con {x0 x1 x2 : Int} {r : Bool} {w : World} (hr : r = M.impl_within x0 x1 x2)  :
    Cl 78 #[(iv x0), (iv x1), (iv x2)] w (fun v_ w_ => v_ = (.bool r) ∧ Ext w w_) := by
 have H := wp.impl_within.math x0 x1 x2
 have hB := Ext.refl w
 refine begK mixed Tryz.f78 ann (vc x0 x1 x2) ?_
 unfold vc
 unfold wp.impl_within at H
 refine brc H (fun h H => ?_) fun h H => ?_
 ·cases hr.trans H.symm
  exact ⟨rfl, hB⟩
 cases hr.trans H.symm
 exact ⟨rfl, hB⟩
def spec_l01In.vc (x0 x1 x2 : Int) (w : World) (K : VK) : Prop :=
  bcase (decide (x0 ≥ x1)) (K (.bool (decide (x0 ≤ x2))) w) (K (.bool false) w)

def spec_l01In.ann : Ann := (.seq .l (.seq .l .l))

theorem spec_l01In.con {x0 x1 x2 : Int} {r : Bool} {w : World} (hr : r = M.spec_l01In x0 x1 x2)  :
    Cl 99 #[(iv x0), (iv x1), (iv x2)] w (fun v_ w_ => v_ = (.bool r) ∧ Ext w w_) := by
 have H := wp.spec_l01In.math x0 x1 x2
 have hB := Ext.refl w
 refine begK mixed Tryz.f99 ann (vc x0 x1 x2) ?_
 unfold vc
 unfold wp.spec_l01In at H
 refine brc H (fun h H => ?_) fun h H => ?_
 ·cases hr.trans H.symm
  exact ⟨rfl, hB⟩
 cases hr.trans H.symm
 exact ⟨rfl, hB⟩
def impl_IsWord.vc (x0 : Int) (w : World) (K : VK) : Prop :=
  Cl 78 #[(iv x0), (iv 0), (iv 65535)] w fun v21 w22 => (∃ (b23 : Bool), v21 = (.bool b23) ∧ K (.bool b23) w22)

def impl_IsWord.ann : Ann := (.seq .l (.seq .l .l))

theorem impl_IsWord.con {x0 : Int} {r : Bool} {w : World} (hr : r = M.impl_IsWord x0)  :
    Cl 178 #[(iv x0)] w (fun v_ w_ => v_ = (.bool r) ∧ Ext w w_) := by
 have H := wp.impl_IsWord.math x0
 refine begK mixed Tryz.f178 ann (vc x0) ?_
 unfold vc
 unfold wp.impl_IsWord at H
 obtain ⟨r21, hr22, H⟩ := callO H
 refine (impl_within.con hr22 ).mono ?_
 rintro _ w24 ⟨rfl, e25⟩
 have hB := ethen (Ext.refl w) e25
 refine ⟨r21, rfl, ?_⟩
 cases hr.trans H.symm
 exact ⟨rfl, hB⟩
def spec_IsWord.vc (x0 : Int) (w : World) (K : VK) : Prop :=
  Cl 99 #[(iv x0), (iv 0), (iv 65535)] w fun v21 w22 => (∃ (b23 : Bool), v21 = (.bool b23) ∧ K (.bool b23) w22)

def spec_IsWord.ann : Ann := (.seq .l (.seq .l .l))

theorem spec_IsWord.con {x0 : Int} {r : Bool} {w : World} (hr : r = M.spec_IsWord x0)  :
    Cl 204 #[(iv x0)] w (fun v_ w_ => v_ = (.bool r) ∧ Ext w w_) := by
 have H := wp.spec_IsWord.math x0
 refine begK mixed Tryz.f204 ann (vc x0) ?_
 unfold vc
 unfold wp.spec_IsWord at H
 obtain ⟨r21, hr22, H⟩ := callO H
 refine (spec_l01In.con hr22 ).mono ?_
 rintro _ w24 ⟨rfl, e25⟩
 have hB := ethen (Ext.refl w) e25
 refine ⟨r21, rfl, ?_⟩
 cases hr.trans H.symm
 exact ⟨rfl, hB⟩
def impl_IsMask.vc (x0 : Int) (w : World) (K : VK) : Prop :=
  Cl 78 #[(iv x0), (iv 0), (iv 255)] w fun v21 w22 => (∃ (b23 : Bool), v21 = (.bool b23) ∧ K (.bool b23) w22)

def impl_IsMask.ann : Ann := (.seq .l (.seq .l .l))

theorem impl_IsMask.con {x0 : Int} {r : Bool} {w : World} (hr : r = M.impl_IsMask x0)  :
    Cl 179 #[(iv x0)] w (fun v_ w_ => v_ = (.bool r) ∧ Ext w w_) := by
 have H := wp.impl_IsMask.math x0
 refine begK mixed Tryz.f179 ann (vc x0) ?_
 unfold vc
 unfold wp.impl_IsMask at H
 obtain ⟨r21, hr22, H⟩ := callO H
 refine (impl_within.con hr22 ).mono ?_
 rintro _ w24 ⟨rfl, e25⟩
 have hB := ethen (Ext.refl w) e25
 refine ⟨r21, rfl, ?_⟩
 cases hr.trans H.symm
 exact ⟨rfl, hB⟩
def impl_isLane.vc (x0 : Int) (w : World) (K : VK) : Prop :=
  Cl 78 #[(iv x0), (iv 0), (iv 7)] w fun v21 w22 => (∃ (b23 : Bool), v21 = (.bool b23) ∧ K (.bool b23) w22)

def impl_isLane.ann : Ann := (.seq .l (.seq .l .l))

theorem impl_isLane.con {x0 : Int} {r : Bool} {w : World} (hr : r = M.impl_isLane x0)  :
    Cl 186 #[(iv x0)] w (fun v_ w_ => v_ = (.bool r) ∧ Ext w w_) := by
 have H := wp.impl_isLane.math x0
 refine begK mixed Tryz.f186 ann (vc x0) ?_
 unfold vc
 unfold wp.impl_isLane at H
 obtain ⟨r21, hr22, H⟩ := callO H
 refine (impl_within.con hr22 ).mono ?_
 rintro _ w24 ⟨rfl, e25⟩
 have hB := ethen (Ext.refl w) e25
 refine ⟨r21, rfl, ?_⟩
 cases hr.trans H.symm
 exact ⟨rfl, hB⟩
def impl_HasLane.vc (x0 x1 : Int) (w : World) (K : VK) : Prop :=
  Cl 179 #[(iv x0)] w fun v21 w22 => (∃ (b23 : Bool), v21 = (.bool b23) ∧ bcase b23 (Cl 186 #[(iv x1)] w22 fun v24 w25 => (∃ (b26 : Bool), v24 = (.bool b26) ∧ bcase b26 (((0 : Int) ≤ x1 ∧ K (.bool ((bitAnd .i64 (Int.fdiv x0 (2 ^ (min (x1.toNat) (IntKind.bits .i64)))) 1) == 1)) w25)) (K (.bool false) w25))) (K (.bool false) w22))

def impl_HasLane.ann : Ann := (.seq .l (.seq .l .l))

theorem impl_HasLane.con {x0 x1 : Int} {r : Bool} {w : World} (hr : r = M.impl_HasLane x0 x1)  :
    Cl 155 #[(iv x0), (iv x1)] w (fun v_ w_ => v_ = (.bool r) ∧ Ext w w_) := by
 have H := wp.impl_HasLane.math x0 x1
 refine begK mixed Tryz.f155 ann (vc x0 x1) ?_
 unfold vc
 unfold wp.impl_HasLane at H
 obtain ⟨r21, hr22, H⟩ := callO H
 refine (impl_IsMask.con hr22 ).mono ?_
 rintro _ w24 ⟨rfl, e25⟩
 have hB := ethen (Ext.refl w) e25
 refine ⟨r21, rfl, ?_⟩
 refine brc H (fun h H => ?_) fun h H => ?_
 ·obtain ⟨r26, hr27, H⟩ := callO H
  refine (impl_isLane.con hr27 ).mono ?_
  rintro _ w29 ⟨rfl, e30⟩
  have hB := ethen hB e30
  refine ⟨r26, rfl, ?_⟩
  refine brc H (fun h H => ?_) fun h H => ?_
  ·obtain ⟨hc31, H⟩ := H
   refine ⟨hc31, ?_⟩
   cases hr.trans H.symm
   exact ⟨rfl, hB⟩
  cases hr.trans H.symm
  exact ⟨rfl, hB⟩
 cases hr.trans H.symm
 exact ⟨rfl, hB⟩
def impl_LanesOf.vc (x0 : Int) (w : World) (K : VK) : Prop :=
  Run Tryz.prog (Instr.buildSlice 24 0 #[]) w fun v21 w22 => ∃ (A23 : OA) (n24 c25 : Nat), v21 = .slice A23 n24 c25 ∧ LoopT (σ := (OA × Nat × Nat) × Int × Unit) (fun z26 w27 next28 => bcase (decide (z26.2.1 < 8)) (Cl 155 #[(iv x0), (iv z26.2.1)] w27 fun v29 w30 => (∃ (b31 : Bool), v29 = (.bool b31) ∧ bcase b31 (Run Tryz.prog (Instr.buildSlice 24 1 #[(0, (iv z26.2.1))]) w30 fun v32 w33 => ∃ (A34 : OA) (n35 c36 : Nat), v32 = .slice A34 n35 c36 ∧ Run Tryz.prog (Builtin.append_ #[24, 24] 24 #[(sv z26.1.1 z26.1.2.1 z26.1.2.2), (sv A34 n35 c36)]) w33 fun v37 w38 => ∃ (A39 : OA) (n40 c41 : Nat), v37 = .slice A39 n40 c41 ∧ next28 ((A39, n40, c41), (wrap .i64 (z26.2.1 + 1)), ()) w38) (next28 ((z26.1.1, z26.1.2.1, z26.1.2.2), (wrap .i64 (z26.2.1 + 1)), ()) w30))) (K (sv z26.1.1 z26.1.2.1 z26.1.2.2) w27)) ((A23, n24, c25), 0, ()) w22

def impl_LanesOf.ann : Ann := (.seq .l (.seq .l (.seq (.seq .l (.one (.loop [(3, .sl), (6, .int .i64)] (.seq .l (.seq (.two .l .l) (.seq (.one (.seq .l (.seq .l (.two .l .l)))) .l)))))) (.seq .l .l))))

theorem impl_LanesOf.con {x0 : Int} {r : List Int} {w : World} (hr : r = M.impl_LanesOf x0)  :
    Cl 105 #[(iv x0)] w (fun v_ w_ => ∃ (A0_ : OA) (c0_ : Nat), v_ = (sv A0_ r.length c0_) ∧ Own el3 w_ w.heap.size A0_ c0_ r ∧ Ext w w_) := by
 have H := wp.impl_LanesOf.math x0
 have hB := Ext.refl w
 refine begK mixed Tryz.f105 ann (vc x0) ?_
 unfold vc
 unfold wp.impl_LanesOf at H
 refine buildOwn el3 ([] : List Int) (fun _ => by kernel_rfl) rfl (fun A21 w22 P1 e23 => ?_)
 have O1 := P1.mono hB.size
 have hB := ethen hB e23
 obtain ⟨J29, ⟨m56, hJ55⟩, hS30⟩ := H
 refine ⟨fun m_ z_ w_ => ∃ (xs24 : List Int) (i27 : Int) (A25 : OA) (c26 : Nat), z_ = ((A25, xs24.length, c26), i27, ()) ∧ J29 m_ (xs24, i27, ()) ∧ Ext w w_ ∧ Own el3 w_ w.heap.size A25 c26 xs24, ⟨m56, ([] : List Int), 0, A21, 0, rfl, hJ55, hB, O1⟩, ?_⟩
 rintro m28 _ w32 ⟨xs24, i27, A25, c26, rfl, hJ57, hB, O2⟩
 have H := hS30 m28 _ hJ57
 clear hS30 hJ57
 try dsimp only at H ⊢
 refine brc H (fun h H => ?_) fun h H => ?_
 ·obtain ⟨r33, hr34, H⟩ := callO H
  refine (impl_HasLane.con hr34 ).mono ?_
  rintro _ w36 ⟨rfl, e37⟩
  have O2 := O2.ext e37
  have hB := ethen hB e37
  refine ⟨r33, rfl, ?_⟩
  refine brc H (fun h H => ?_) fun h H => ?_
  ·refine buildOwn el3 ([i27] : List Int) (fun _ => by kernel_rfl) rfl (fun A38 w39 P3 e40 => ?_)
   have O2 := O2.ext e40
   have O3 := P3.mono hB.size
   have hB := ethen hB e40
   obtain ⟨hl45, H⟩ := H
   refine appO slt24 O2 O3.row hB.size hl45 (fun A41 c42 w43 P2 e44 => ?_)
   have hB := eapp hB e44 O2
   have O2 := P2
   obtain ⟨m46, hm47, hJ48⟩ := H
   exact ⟨m46, hm47, _, _, A41, c42, rfl, hJ48, hB, O2⟩
  obtain ⟨m49, hm50, hJ51⟩ := H
  exact ⟨m49, hm50, xs24, _, A25, c26, rfl, hJ51, hB, O2⟩
 cases hr.trans H.symm
 exact ⟨A25, c26, rfl, O2, hB⟩
def spec_AreWords.vc (A0 : OA) (n0 c0 : Nat) (w : World) (K : VK) : Prop :=
  LoopT (σ := Int × Unit) (fun z21 w22 next23 => bcase (decide (z21.1 < ((n0 : Nat) : Int))) ((idx z21.1 n0 A0 fun a24 => ldI w22 ((a24.add ((z21.1.toNat) * 1)).add 0) fun n25 => Cl 204 #[(iv n25)] w22 fun v26 w27 => (∃ (b28 : Bool), v26 = (.bool b28) ∧ bcase (!b28) (K (.bool false) w27) (next23 ((wrap .i64 (z21.1 + 1)), ()) w27)))) (K (.bool true) w22)) (0, ()) w

def spec_AreWords.ann : Ann := (.seq .l (.seq (.seq .l (.one (.loop [(3, .int .i64)] (.seq (.seq .l (.two .l .l)) (.seq (.one (.seq .l (.two (.seq .l .l) .l))) .l))))) (.seq .l .l)))

theorem spec_AreWords.con {xs0 : List Int} {A0 : OA} {c0 : Nat} {r : Bool} {w : World} (hp : M.spec_AreWords_pre xs0) (hr : r = M.spec_AreWords xs0) (R0 : Row el3 w A0 xs0) (hc0 : xs0.length ≤ c0) :
    Cl 167 #[(sv A0 xs0.length c0)] w (fun v_ w_ => v_ = (.bool r) ∧ Ext w w_) := by
 have H := wp.spec_AreWords.math xs0 hp
 have hB := Ext.refl w
 refine begK mixed Tryz.f167 ann (vc A0 xs0.length c0) ?_
 unfold vc
 unfold wp.spec_AreWords at H
 obtain ⟨J23, ⟨m44, hJ43⟩, hS24⟩ := H
 refine ⟨fun m_ z_ w_ => ∃ (i21 : Int), z_ = (i21, ()) ∧ J23 m_ (i21, ()) ∧ Ext w w_, ⟨m44, 0, rfl, hJ43, hB⟩, ?_⟩
 rintro m22 _ w26 ⟨i21, rfl, hJ45, hB⟩
 have H := hS24 m22 _ hJ45
 clear hS24 hJ45
 try dsimp only at H ⊢
 refine brc H (fun h H => ?_) fun h H => ?_
 ·obtain ⟨⟨h0_30, h1_31⟩, H⟩ := H
  obtain ⟨a28, ha29, hat27⟩ := Row.at (R0.ext hB) h0_30 h1_31
  refine ⟨h0_30, h1_31, a28, ha29, _, (hat27 0 _ rfl), ?_⟩
  obtain ⟨r32, hr33, H⟩ := callO H
  refine (spec_IsWord.con hr33 ).mono ?_
  rintro _ w35 ⟨rfl, e36⟩
  have hB := ethen hB e36
  refine ⟨r32, rfl, ?_⟩
  refine brc H (fun h H => ?_) fun h H => ?_
  ·cases hr.trans H.symm
   exact ⟨rfl, hB⟩
  obtain ⟨m37, hm38, hJ39⟩ := H
  exact ⟨m37, hm38, _, rfl, hJ39, hB⟩
 cases hr.trans H.symm
 exact ⟨rfl, hB⟩
def laws_eqIntS.vc (A0 : OA) (n0 c0 : Nat) (A1 : OA) (n1 c1 : Nat) (w : World) (K : VK) : Prop :=
  bcase (((n0 : Nat) : Int) != ((n1 : Nat) : Int)) (K (.bool false) w) (LoopT (σ := Int × Unit) (fun z21 w22 next23 => bcase (decide (z21.1 < ((n0 : Nat) : Int))) ((idx z21.1 n0 A0 fun a24 => ldI w22 ((a24.add ((z21.1.toNat) * 1)).add 0) fun n25 => (idx z21.1 n1 A1 fun a26 => ldI w22 ((a26.add ((z21.1.toNat) * 1)).add 0) fun n27 => bcase (n25 != n27) (K (.bool false) w22.drew) (next23 ((wrap .i64 (z21.1 + 1)), ()) w22.drew)))) (K (.bool true) w22)) (0, ()) w)

def laws_eqIntS.ann : Ann := (.seq .l (.seq (.seq .l (.two (.seq .l .l) .l)) (.seq (.seq .l (.one (.loop [(5, .int .i64)] (.seq (.seq .l (.two .l .l)) (.seq (.one (.seq .l (.two (.seq .l .l) .l))) .l))))) (.seq .l .l))))

theorem laws_eqIntS.con {xs0 xs1 : List Int} {A0 A1 : OA} {c0 c1 : Nat} {r : Bool} {w : World} (hp : M.laws_eqIntS_pre xs0 xs1) (hr : r = M.laws_eqIntS xs0 xs1) (R0 : Row el3 w A0 xs0) (hc0 : xs0.length ≤ c0) (R1 : Row el3 w A1 xs1) (hc1 : xs1.length ≤ c1) :
    Cl 54 #[(sv A0 xs0.length c0), (sv A1 xs1.length c1)] w (fun v_ w_ => v_ = (.bool r) ∧ Ext w w_) := by
 have H := wp.laws_eqIntS.math xs0 xs1 hp
 have hB := Ext.refl w
 refine begK mixed Tryz.f54 ann (vc A0 xs0.length c0 A1 xs1.length c1) ?_
 unfold vc
 unfold wp.laws_eqIntS at H
 refine brc H (fun h H => ?_) fun h H => ?_
 ·cases hr.trans H.symm
  exact ⟨rfl, hB⟩
 obtain ⟨J23, ⟨m45, hJ44⟩, hS24⟩ := H
 refine ⟨fun m_ z_ w_ => ∃ (i21 : Int), z_ = (i21, ()) ∧ J23 m_ (i21, ()) ∧ Ext w w_, ⟨m45, 0, rfl, hJ44, hB⟩, ?_⟩
 rintro m22 _ w26 ⟨i21, rfl, hJ46, hB⟩
 have H := hS24 m22 _ hJ46
 clear hS24 hJ46
 try dsimp only at H ⊢
 refine brc H (fun h H => ?_) fun h H => ?_
 ·obtain ⟨⟨h0_31, h1_32⟩, H⟩ := H
  obtain ⟨a29, ha30, hat28⟩ := Row.at (R0.ext hB) h0_31 h1_32
  refine ⟨h0_31, h1_32, a29, ha30, _, (hat28 0 _ rfl), ?_⟩
  obtain ⟨⟨h0_36, h1_37⟩, H⟩ := H
  obtain ⟨a34, ha35, hat33⟩ := Row.at (R1.ext hB) h0_36 h1_37
  refine ⟨h0_36, h1_37, a34, ha35, _, (hat33 0 _ rfl), ?_⟩
  have hB := ethen hB (Ext.drew _)
  refine brc H (fun h H => ?_) fun h H => ?_
  ·cases hr.trans H.symm
   exact ⟨rfl, hB⟩
  obtain ⟨m38, hm39, hJ40⟩ := H
  exact ⟨m38, hm39, _, rfl, hJ40, hB⟩
 cases hr.trans H.symm
 exact ⟨rfl, hB⟩
def laws_toIntS.vc (A0 : OA) (n0 c0 : Nat) (w : World) (K : VK) : Prop :=
  vcMake Tryz.prog 24 ((n0 : Nat) : Int) ((n0 : Nat) : Int) w fun g21 w22 => LoopT (σ := Int × Unit) (fun z23 w24 next25 => bcase (decide (z23.1 < ((n0 : Nat) : Int))) ((idx z23.1 n0 A0 fun a26 => ldI w24 ((a26.add ((z23.1.toNat) * 1)).add 0) fun n27 => (idx z23.1 (((n0 : Nat) : Int).toNat) ((some (bx g21))) fun a28 => stCells (a28.add ((z23.1.toNat) * 1)) [(iv n27)] 0 w24 fun w29 => next25 ((wrap .i64 (z23.1 + 1)), ()) w29))) (K (sv (some (bx g21)) (((n0 : Nat) : Int).toNat) (((n0 : Nat) : Int).toNat)) w24)) (0, ()) w22

def laws_toIntS.ann : Ann := (.seq .l (.seq .l (.seq (.seq .l (.one (.loop [(4, .int .i64)] (.seq (.seq .l (.two .l .l)) (.seq (.one .l) .l))))) (.seq .l .l))))

theorem laws_toIntS.con {xs0 r : List Int} {A0 : OA} {c0 : Nat} {w : World} (hp : M.laws_toIntS_pre xs0) (hr : r = M.laws_toIntS xs0) (R0 : Row el3 w A0 xs0) (hc0 : xs0.length ≤ c0) :
    Cl 49 #[(sv A0 xs0.length c0)] w (fun v_ w_ => ∃ (A0_ : OA) (c0_ : Nat), v_ = (sv A0_ r.length c0_) ∧ Own el3 w_ w.heap.size A0_ c0_ r ∧ Ext w w_) := by
 have H := wp.laws_toIntS.math xs0 hp
 have hB := Ext.refl w
 refine begK mixed Tryz.f49 ann (vc A0 xs0.length c0) ?_
 unfold vc
 unfold wp.laws_toIntS at H
 obtain ⟨⟨h0_24, h1_25⟩, H⟩ := H
 refine makeOwn slt24 h0_24 h1_25 (fun g21 w22 P2 e23 => ?_)
 have O2 := P2.mono hB.size
 have hB := ethen hB e23
 obtain ⟨J49, ⟨m72, hJ71⟩, hS50⟩ := H
 refine ⟨fun m_ z_ w_ => ∃ (i45 : Int) (xs46 : List Int), z_ = (i45, ()) ∧ J49 m_ (i45, xs46, ()) ∧ Ext w w_ ∧ Own el3 w_ w.heap.size (some (bx g21)) ((xs0.length : Int).toNat) xs46 ∧ ((xs0.length : Int).toNat) = xs46.length, ⟨m72, 0, (List.replicate ((xs0.length : Int).toNat) (default : Int)), rfl, hJ71, hB, O2, (by first | rfl | assumption | omega | (simp; done) | (simp; omega) | (simp; assumption))⟩, ?_⟩
 rintro m48 _ w52 ⟨i45, xs46, rfl, hJ73, hB, O2, hn47⟩
 have H := hS50 m48 _ hJ73
 clear hS50 hJ73
 try dsimp only at H ⊢
 refine brc H (fun h H => ?_) fun h H => ?_
 ·obtain ⟨⟨h0_56, h1_57⟩, H⟩ := H
  obtain ⟨a54, ha55, hat53⟩ := Row.at (R0.ext hB) h0_56 h1_57
  refine ⟨h0_56, h1_57, a54, ha55, _, (hat53 0 _ rfl), ?_⟩
  obtain ⟨⟨h0_61, h1_62⟩, H⟩ := H
  obtain ⟨a59, ha60, hat58⟩ := Row.at O2.row h0_61 h1_62
  refine ⟨h0_61, (by first | exact h1_62 | omega | (simp at h1_62 ⊢; omega)), a59, ha60, ?_⟩
  refine Own.stA O2 ha60 h0_61 h1_62 0 (rd xs0 i45) (fun w63 O2 e64 hb65 => ?_)
  have hB := echg hB e64 hb65
  obtain ⟨m66, hm67, hJ68⟩ := H
  exact ⟨m66, hm67, _, _, rfl, hJ68, hB, O2, (by first | rfl | assumption | omega | (simp; done) | (simp; omega) | (simp; assumption))⟩
 cases hr.trans H.symm
 exact ⟨(some (bx g21)), ((xs0.length : Int).toNat), (by first | rfl | (rw [hn47]; done) | (simp; done) | (simp; omega) | (simp [*]; done)), (by first | exact O2 | (simp only [bC, wC, List.length_set]; exact O2) | (rw [← hn47]; exact O2)), hB⟩
def laws_markIntS.vc (A0 : OA) (n0 c0 : Nat) (x1 : Int) (w : World) (K : VK) : Prop :=
  LoopT (σ := Int × Int × Unit) (fun z21 w22 next23 => bcase (decide (z21.2.1 < ((n0 : Nat) : Int))) ((idx z21.2.1 n0 A0 fun a24 => stCells (a24.add ((z21.2.1.toNat) * 1)) [(iv z21.1)] 0 w22 fun w25 => next23 ((wrap .i64 (z21.1 + 1)), (wrap .i64 (z21.2.1 + 1)), ()) w25)) (K (iv z21.1) w22)) (x1, 0, ()) w

def laws_markIntS.ann : Ann := (.seq .l (.seq (.seq .l (.one (.loop [(1, .int .i64), (5, .int .i64)] (.seq (.seq .l (.two .l .l)) (.seq (.one (.seq .l .l)) .l))))) (.seq .l .l)))

theorem laws_markIntS.con {xs0 : List Int} {A0 : OA} {c0 : Nat} {x1 : Int} {r : Int × (List Int)} {w : World} (hp : M.laws_markIntS_pre xs0 x1) (hr : r = M.laws_markIntS xs0 x1) (O1 : Own el3 w 0 A0 c0 xs0) :
    Cl 57 #[(sv A0 xs0.length c0), (iv x1)] w (fun v_ w_ => v_ = (iv r.1) ∧ Own el3 w_ 0 A0 c0 r.2 ∧ r.2.length = xs0.length ∧ Chg (InB A0) w w_) := by
 have H := wp.laws_markIntS.math xs0 x1 hp
 have hB := Chg.refl (InB A0) w
 refine begK mixed Tryz.f57 ann (vc A0 xs0.length c0 x1) ?_
 unfold vc
 unfold wp.laws_markIntS at H
 obtain ⟨J41, ⟨m59, hJ58⟩, hS42⟩ := H
 refine ⟨fun m_ z_ w_ => ∃ (i36 i37 : Int) (xs38 : List Int), z_ = (i36, i37, ()) ∧ J41 m_ (i36, i37, xs38, ()) ∧ Chg (InB A0) w w_ ∧ Own el3 w_ 0 A0 c0 xs38 ∧ xs0.length = xs38.length, ⟨m59, x1, 0, xs0, rfl, hJ58, hB, O1, (by first | rfl | assumption | omega | (simp; done) | (simp; omega) | (simp; assumption))⟩, ?_⟩
 rintro m40 _ w44 ⟨i36, i37, xs38, rfl, hJ60, hB, O1, hn39⟩
 have H := hS42 m40 _ hJ60
 clear hS42 hJ60
 try dsimp only at H ⊢
 refine brc H (fun h H => ?_) fun h H => ?_
 ·obtain ⟨⟨h0_48, h1_49⟩, H⟩ := H
  obtain ⟨a46, ha47, hat45⟩ := Row.at O1.row h0_48 h1_49
  refine ⟨h0_48, (by first | exact h1_49 | omega | (simp at h1_49 ⊢; omega)), a46, ha47, ?_⟩
  refine Own.stA O1 ha47 h0_48 h1_49 0 i36 (fun w50 O1 e51 hb52 => ?_)
  have hB := hB.chgb e51 (Or.inr ⟨_, ha47, rfl⟩)
  obtain ⟨m53, hm54, hJ55⟩ := H
  exact ⟨m53, hm54, _, _, _, rfl, hJ55, hB, O1, (by first | rfl | assumption | omega | (simp; done) | (simp; omega) | (simp; assumption))⟩
 cases hr.trans H.symm
 exact ⟨rfl, O1, (by first | (simp only [bC, wC, List.length_set]; done) | (simp only [bC, wC, List.length_set, ← hn39]; done) | (simp; done) | (simp; omega) | omega), hB⟩
def laws_markAccessS.vc (A0 : OA) (n0 c0 : Nat) (x1 : Int) (w : World) (K : VK) : Prop :=
  LoopT (σ := Int × Int × Unit) (fun z21 w22 next23 => bcase (decide (z21.2.1 < ((n0 : Nat) : Int))) ((idx z21.2.1 n0 A0 fun a24 => stCells ((a24.add ((z21.2.1.toNat) * 4)).add 0) [(iv z21.1)] 0 w22 fun w25 => (idx z21.2.1 n0 A0 fun a26 => stCells ((a26.add ((z21.2.1.toNat) * 4)).add 1) [(iv (wrap .i64 (z21.1 + 1)))] 0 w25 fun w27 => (idx z21.2.1 n0 A0 fun a28 => stCells ((a28.add ((z21.2.1.toNat) * 4)).add 2) [(iv (wrap .i64 ((wrap .i64 (z21.1 + 1)) + 1)))] 0 w27 fun w29 => (idx z21.2.1 n0 A0 fun a30 => stCells ((a30.add ((z21.2.1.toNat) * 4)).add 3) [(iv (wrap .i64 ((wrap .i64 ((wrap .i64 (z21.1 + 1)) + 1)) + 1)))] 0 w29 fun w31 => next23 ((wrap .i64 ((wrap .i64 ((wrap .i64 ((wrap .i64 (z21.1 + 1)) + 1)) + 1)) + 1)), (wrap .i64 (z21.2.1 + 1)), ()) w31))))) (K (iv z21.1) w22)) (x1, 0, ()) w

def laws_markAccessS.ann : Ann := (.seq .l (.seq (.seq .l (.one (.loop [(1, .int .i64), (5, .int .i64)] (.seq (.seq .l (.two .l .l)) (.seq (.one (.seq .l (.seq .l (.seq .l (.seq .l (.seq .l (.seq .l (.seq .l .l)))))))) .l))))) (.seq .l .l)))

theorem laws_markAccessS.con {xs0 : List D.Access} {A0 : OA} {c0 : Nat} {x1 : Int} {r : Int × (List D.Access)} {w : World} (hp : M.laws_markAccessS_pre xs0 x1) (hr : r = M.laws_markAccessS xs0 x1) (O1 : Own el63 w 0 A0 c0 xs0) :
    Cl 16 #[(sv A0 xs0.length c0), (iv x1)] w (fun v_ w_ => v_ = (iv r.1) ∧ Own el63 w_ 0 A0 c0 r.2 ∧ r.2.length = xs0.length ∧ Chg (InB A0) w w_) := by
 have H := wp.laws_markAccessS.math xs0 x1 hp
 have hB := Chg.refl (InB A0) w
 refine begK mixed Tryz.f16 ann (vc A0 xs0.length c0 x1) ?_
 unfold vc
 unfold wp.laws_markAccessS at H
 obtain ⟨J68, ⟨m113, hJ112⟩, hS69⟩ := H
 refine ⟨fun m_ z_ w_ => ∃ (i63 i64 : Int) (xs65 : List D.Access), z_ = (i63, i64, ()) ∧ J68 m_ (i63, i64, xs65, ()) ∧ Chg (InB A0) w w_ ∧ Own el63 w_ 0 A0 c0 xs65 ∧ xs0.length = xs65.length, ⟨m113, x1, 0, xs0, rfl, hJ112, hB, O1, (by first | rfl | assumption | omega | (simp; done) | (simp; omega) | (simp; assumption))⟩, ?_⟩
 rintro m67 _ w71 ⟨i63, i64, xs65, rfl, hJ114, hB, O1, hn66⟩
 have H := hS69 m67 _ hJ114
 clear hS69 hJ114
 try dsimp only at H ⊢
 refine brc H (fun h H => ?_) fun h H => ?_
 ·obtain ⟨⟨h0_75, h1_76⟩, H⟩ := H
  obtain ⟨a73, ha74, hat72⟩ := Row.at O1.row h0_75 h1_76
  refine ⟨h0_75, (by first | exact h1_76 | omega | (simp at h1_76 ⊢; omega)), a73, ha74, ?_⟩
  refine Own.stA O1 ha74 h0_75 h1_76 0 (⟨i63, (rd xs65 i64).Warp, (rd xs65 i64).Address, (rd xs65 i64).Kind⟩ : D.Access) (fun w77 P1 e78 hb79 => ?_)
  have O1 := P1
  obtain ⟨⟨h0_83, h1_84⟩, H⟩ := H
  obtain ⟨a81, ha82, hat80⟩ := Row.at O1.row h0_83 h1_84
  refine ⟨h0_83, (by first | exact h1_84 | omega | (simp at h1_84 ⊢; omega)), a81, ha82, ?_⟩
  have hrd88 := rd_set h0_83 h1_84
  refine Own.storeAt O1 ha82 h0_83 h1_84 1 [(iv (wrap .i64 (i63 + 1)))] (⟨i63, (wrap .i64 (i63 + 1)), (rd xs65 i64).Address, (rd xs65 i64).Kind⟩ : D.Access) (by rw [hrd88]; rfl) (Nat.le_of_ble_eq_true rfl) rfl (fun w85 P1 e86 hb87 => ?_)
  rw [List.set_set] at P1
  have O1 := P1
  obtain ⟨⟨h0_92, h1_93⟩, H⟩ := H
  obtain ⟨a90, ha91, hat89⟩ := Row.at O1.row h0_92 h1_93
  refine ⟨h0_92, (by first | exact h1_93 | omega | (simp at h1_93 ⊢; omega)), a90, ha91, ?_⟩
  have hrd97 := rd_set h0_92 h1_93
  refine Own.storeAt O1 ha91 h0_92 h1_93 2 [(iv (wrap .i64 ((wrap .i64 (i63 + 1)) + 1)))] (⟨i63, (wrap .i64 (i63 + 1)), (wrap .i64 ((wrap .i64 (i63 + 1)) + 1)), (rd xs65 i64).Kind⟩ : D.Access) (by rw [hrd97]; rfl) (Nat.le_of_ble_eq_true rfl) rfl (fun w94 P1 e95 hb96 => ?_)
  rw [List.set_set] at P1
  have O1 := P1
  obtain ⟨⟨h0_101, h1_102⟩, H⟩ := H
  obtain ⟨a99, ha100, hat98⟩ := Row.at O1.row h0_101 h1_102
  refine ⟨h0_101, (by first | exact h1_102 | omega | (simp at h1_102 ⊢; omega)), a99, ha100, ?_⟩
  have hrd106 := rd_set h0_101 h1_102
  refine Own.storeAt O1 ha100 h0_101 h1_102 3 [(iv (wrap .i64 ((wrap .i64 ((wrap .i64 (i63 + 1)) + 1)) + 1)))] (⟨i63, (wrap .i64 (i63 + 1)), (wrap .i64 ((wrap .i64 (i63 + 1)) + 1)), (wrap .i64 ((wrap .i64 ((wrap .i64 (i63 + 1)) + 1)) + 1))⟩ : D.Access) (by rw [hrd106]; rfl) (Nat.le_of_ble_eq_true rfl) rfl (fun w103 O1 e104 hb105 => ?_)
  rw [List.set_set] at O1
  have hB := (((hB.chgb e78 (Or.inr ⟨_, ha74, rfl⟩)).chgb e86 (Or.inr ⟨_, ha82, rfl⟩)).chgb e95 (Or.inr ⟨_, ha91, rfl⟩)).chgb e104 (Or.inr ⟨_, ha100, rfl⟩)
  obtain ⟨m107, hm108, hJ109⟩ := H
  exact ⟨m107, hm108, _, _, _, rfl, hJ109, hB, O1, (by first | rfl | assumption | omega | (simp; done) | (simp; omega) | (simp; assumption))⟩
 cases hr.trans H.symm
 exact ⟨rfl, O1, (by first | (simp only [bC, wC, List.length_set]; done) | (simp only [bC, wC, List.length_set, ← hn66]; done) | (simp; done) | (simp; omega) | omega), hB⟩
def laws_heldAccessS.vc (A0 : OA) (n0 c0 : Nat) (x1 : Int) (w : World) (K : VK) : Prop :=
  LoopT (σ := Int × Int × Unit) (fun z21 w22 next23 => bcase (decide (z21.2.1 < ((n0 : Nat) : Int))) ((idx z21.2.1 n0 A0 fun a24 => ldI w22 (((a24.add ((z21.2.1.toNat) * 4)).add 0).add 0) fun n25 => bcase (n25 != z21.1) (K (iv (-1)) w22) ((idx z21.2.1 n0 A0 fun a26 => ldI w22 (((a26.add ((z21.2.1.toNat) * 4)).add 1).add 0) fun n27 => bcase (n27 != (wrap .i64 (z21.1 + 1))) (K (iv (-1)) w22) ((idx z21.2.1 n0 A0 fun a28 => ldI w22 (((a28.add ((z21.2.1.toNat) * 4)).add 2).add 0) fun n29 => bcase (n29 != (wrap .i64 ((wrap .i64 (z21.1 + 1)) + 1))) (K (iv (-1)) w22) ((idx z21.2.1 n0 A0 fun a30 => ldI w22 (((a30.add ((z21.2.1.toNat) * 4)).add 3).add 0) fun n31 => bcase (n31 != (wrap .i64 ((wrap .i64 ((wrap .i64 (z21.1 + 1)) + 1)) + 1))) (K (iv (-1)) w22) (next23 ((wrap .i64 ((wrap .i64 ((wrap .i64 ((wrap .i64 (z21.1 + 1)) + 1)) + 1)) + 1)), (wrap .i64 (z21.2.1 + 1)), ()) w22))))))))) (K (iv z21.1) w22)) (x1, 0, ()) w

def laws_heldAccessS.ann : Ann := (.seq .l (.seq (.seq .l (.one (.loop [(1, .int .i64), (5, .int .i64)] (.seq (.seq .l (.two .l .l)) (.seq (.one (.seq (.seq .l (.two (.seq .l .l) .l)) (.seq .l (.seq (.seq .l (.two (.seq .l .l) .l)) (.seq .l (.seq (.seq .l (.two (.seq .l .l) .l)) (.seq .l (.seq (.seq .l (.two (.seq .l .l) .l)) .l)))))))) .l))))) (.seq .l .l)))

theorem laws_heldAccessS.con {xs0 : List D.Access} {A0 : OA} {c0 : Nat} {x1 r : Int} {w : World} (hp : M.laws_heldAccessS_pre xs0 x1) (hr : r = M.laws_heldAccessS xs0 x1) (R0 : Row el63 w A0 xs0) (hc0 : xs0.length ≤ c0) :
    Cl 17 #[(sv A0 xs0.length c0), (iv x1)] w (fun v_ w_ => v_ = (iv r) ∧ Ext w w_) := by
 have H := wp.laws_heldAccessS.math xs0 x1 hp
 have hB := Ext.refl w
 refine begK mixed Tryz.f17 ann (vc A0 xs0.length c0 x1) ?_
 unfold vc
 unfold wp.laws_heldAccessS at H
 obtain ⟨J24, ⟨m58, hJ57⟩, hS25⟩ := H
 refine ⟨fun m_ z_ w_ => ∃ (i21 i22 : Int), z_ = (i21, i22, ()) ∧ J24 m_ (i21, i22, ()) ∧ Ext w w_, ⟨m58, x1, 0, rfl, hJ57, hB⟩, ?_⟩
 rintro m23 _ w27 ⟨i21, i22, rfl, hJ59, hB⟩
 have H := hS25 m23 _ hJ59
 clear hS25 hJ59
 try dsimp only at H ⊢
 refine brc H (fun h H => ?_) fun h H => ?_
 ·obtain ⟨⟨h0_31, h1_32⟩, H⟩ := H
  obtain ⟨a29, ha30, hat28⟩ := Row.at (R0.ext hB) h0_31 h1_32
  refine ⟨h0_31, h1_32, a29, ha30, _, (hat28 0 _ rfl), ?_⟩
  refine brc H (fun h H => ?_) fun h H => ?_
  ·cases hr.trans H.symm
   exact ⟨rfl, hB⟩
  obtain ⟨⟨h0_36, h1_37⟩, H⟩ := H
  obtain ⟨a34, ha35, hat33⟩ := Row.at (R0.ext hB) h0_36 h1_37
  refine ⟨h0_36, h1_37, a34, ha35, _, (hat33 1 _ rfl), ?_⟩
  refine brc H (fun h H => ?_) fun h H => ?_
  ·cases hr.trans H.symm
   exact ⟨rfl, hB⟩
  obtain ⟨⟨h0_41, h1_42⟩, H⟩ := H
  obtain ⟨a39, ha40, hat38⟩ := Row.at (R0.ext hB) h0_41 h1_42
  refine ⟨h0_41, h1_42, a39, ha40, _, (hat38 2 _ rfl), ?_⟩
  refine brc H (fun h H => ?_) fun h H => ?_
  ·cases hr.trans H.symm
   exact ⟨rfl, hB⟩
  obtain ⟨⟨h0_46, h1_47⟩, H⟩ := H
  obtain ⟨a44, ha45, hat43⟩ := Row.at (R0.ext hB) h0_46 h1_47
  refine ⟨h0_46, h1_47, a44, ha45, _, (hat43 3 _ rfl), ?_⟩
  refine brc H (fun h H => ?_) fun h H => ?_
  ·cases hr.trans H.symm
   exact ⟨rfl, hB⟩
  obtain ⟨m48, hm49, hJ50⟩ := H
  exact ⟨m48, hm49, _, _, rfl, hJ50, hB⟩
 cases hr.trans H.symm
 exact ⟨rfl, hB⟩
def laws_eqAccess.vc (x0_0 x0_1 x0_2 x0_3 x1_0 x1_1 x1_2 x1_3 : Int) (w : World) (K : VK) : Prop :=
  newK w (.cells #[(iv x0_0), (iv x0_1), (iv x0_2), (iv x0_3)] 63) fun g21 w22 => newK w22 (.cells #[(iv x1_0), (iv x1_1), (iv x1_2), (iv x1_3)] 63) fun g23 w24 => ldI w24 (((bx g21).add 0).add 0) fun n25 => ldI w24 (((bx g23).add 0).add 0) fun n26 => bcase (n25 != n26) (K (.bool false) w24) (ldI w24 (((bx g21).add 1).add 0) fun n27 => ldI w24 (((bx g23).add 1).add 0) fun n28 => bcase (n27 != n28) (K (.bool false) w24) (ldI w24 (((bx g21).add 2).add 0) fun n29 => ldI w24 (((bx g23).add 2).add 0) fun n30 => bcase (n29 != n30) (K (.bool false) w24) (ldI w24 (((bx g21).add 3).add 0) fun n31 => ldI w24 (((bx g23).add 3).add 0) fun n32 => bcase (n31 != n32) (K (.bool false) w24) (K (.bool true) w24))))

def laws_eqAccess.ann : Ann := (.seq .l (.seq (.seq .l (.two (.seq .l .l) .l)) (.seq (.seq .l (.two (.seq .l .l) .l)) (.seq (.seq .l (.two (.seq .l .l) .l)) (.seq (.seq .l (.two (.seq .l .l) .l)) (.seq .l .l))))))

theorem laws_eqAccess.con {s0 s1 : D.Access} {r : Bool} {w : World} (hr : r = M.laws_eqAccess s0 s1)  :
    Cl 51 #[(.agg #[(iv s0.Phase), (iv s0.Warp), (iv s0.Address), (iv s0.Kind)]), (.agg #[(iv s1.Phase), (iv s1.Warp), (iv s1.Address), (iv s1.Kind)])] w (fun v_ w_ => v_ = (.bool r) ∧ Ext w w_) := by
 have H := wp.laws_eqAccess.math s0 s1
 refine begK mixed Tryz.f51 ann (vc s0.Phase s0.Warp s0.Address s0.Kind s1.Phase s1.Warp s1.Address s1.Kind) ?_
 unfold vc
 unfold wp.laws_eqAccess at H
 refine newBlk (fun g1_ w21 L1 O1 e22 => ?_)
 refine newBlk (fun g2_ w23 L2 O2 e24 => ?_)
 have O1 := O1.ext e24
 have hB := ethen (ethen (Ext.refl w) e22) e24
 refine ⟨_, (O1.a 0), _, (O2.a 0), ?_⟩
 refine brc H (fun h H => ?_) fun h H => ?_
 ·cases hr.trans H.symm
  exact ⟨rfl, hB⟩
 refine ⟨_, (O1.a 1), _, (O2.a 1), ?_⟩
 refine brc H (fun h H => ?_) fun h H => ?_
 ·cases hr.trans H.symm
  exact ⟨rfl, hB⟩
 refine ⟨_, (O1.a 2), _, (O2.a 2), ?_⟩
 refine brc H (fun h H => ?_) fun h H => ?_
 ·cases hr.trans H.symm
  exact ⟨rfl, hB⟩
 refine ⟨_, (O1.a 3), _, (O2.a 3), ?_⟩
 refine brc H (fun h H => ?_) fun h H => ?_
 ·cases hr.trans H.symm
  exact ⟨rfl, hB⟩
 cases hr.trans H.symm
 exact ⟨rfl, hB⟩
def laws_eqAccessS.vc (A0 : OA) (n0 c0 : Nat) (A1 : OA) (n1 c1 : Nat) (w : World) (K : VK) : Prop :=
  bcase (((n0 : Nat) : Int) != ((n1 : Nat) : Int)) (K (.bool false) w) (LoopT (σ := Int × Unit) (fun z21 w22 next23 => bcase (decide (z21.1 < ((n0 : Nat) : Int))) ((∃ M24 : Nat → Prop, (idx z21.1 n0 A0 fun a25 => ldIM M24 w22 (a25.add ((z21.1.toNat) * 4)) 0 fun n26 => ldIM M24 w22 (a25.add ((z21.1.toNat) * 4)) 1 fun n27 => ldIM M24 w22 (a25.add ((z21.1.toNat) * 4)) 2 fun n28 => ldIM M24 w22 (a25.add ((z21.1.toNat) * 4)) 3 fun n29 => (idx z21.1 n1 A1 fun a30 => ldIM M24 w22 (a30.add ((z21.1.toNat) * 4)) 0 fun n31 => ldIM M24 w22 (a30.add ((z21.1.toNat) * 4)) 1 fun n32 => ldIM M24 w22 (a30.add ((z21.1.toNat) * 4)) 2 fun n33 => ldIM M24 w22 (a30.add ((z21.1.toNat) * 4)) 3 fun n34 => Cl 51 #[(.agg #[(iv n26), (iv n27), (iv n28), (iv n29)]), (.agg #[(iv n31), (iv n32), (iv n33), (iv n34)])] w22.drew fun v35 w36 => (∃ (b37 : Bool), v35 = (.bool b37) ∧ SameBut M24 w22 w36 ∧ bcase (!b37) (K (.bool false) w36) (next23 ((wrap .i64 (z21.1 + 1)), ()) w36)))))) (K (.bool true) w22)) (0, ()) w)

def laws_eqAccessS.ann : Ann := (.seq .l (.seq (.seq .l (.two (.seq .l .l) .l)) (.seq (.seq .l (.one (.loop [(5, .int .i64)] (.seq (.seq .l (.two .l .l)) (.seq (.one (.seq .l (.two (.seq .l .l) .l))) .l))))) (.seq .l .l))))

theorem laws_eqAccessS.con {xs0 xs1 : List D.Access} {A0 A1 : OA} {c0 c1 : Nat} {r : Bool} {w : World} (hp : M.laws_eqAccessS_pre xs0 xs1) (hr : r = M.laws_eqAccessS xs0 xs1) (R0 : Row el63 w A0 xs0) (hc0 : xs0.length ≤ c0) (R1 : Row el63 w A1 xs1) (hc1 : xs1.length ≤ c1) :
    Cl 13 #[(sv A0 xs0.length c0), (sv A1 xs1.length c1)] w (fun v_ w_ => v_ = (.bool r) ∧ Ext w w_) := by
 have H := wp.laws_eqAccessS.math xs0 xs1 hp
 have hB := Ext.refl w
 refine begK mixed Tryz.f13 ann (vc A0 xs0.length c0 A1 xs1.length c1) ?_
 unfold vc
 unfold wp.laws_eqAccessS at H
 refine brc H (fun h H => ?_) fun h H => ?_
 ·cases hr.trans H.symm
  exact ⟨rfl, hB⟩
 obtain ⟨J23, ⟨m50, hJ49⟩, hS24⟩ := H
 refine ⟨fun m_ z_ w_ => ∃ (i21 : Int), z_ = (i21, ()) ∧ J23 m_ (i21, ()) ∧ Ext w w_, ⟨m50, 0, rfl, hJ49, hB⟩, ?_⟩
 rintro m22 _ w26 ⟨i21, rfl, hJ51, hB⟩
 have H := hS24 m22 _ hJ51
 clear hS24 hJ51
 try dsimp only at H ⊢
 refine brc H (fun h H => ?_) fun h H => ?_
 ·refine ⟨(fun _ => False), ?_⟩
  obtain ⟨⟨h0_31, h1_32⟩, H⟩ := H
  obtain ⟨a29, ha30, hat28⟩ := Row.at (R0.ext hB) h0_31 h1_32
  refine ⟨h0_31, h1_32, a29, ha30, _, ⟨(fun h_ => h_), (hat28 0 _ rfl)⟩, _, ⟨(fun h_ => h_), (hat28 1 _ rfl)⟩, _, ⟨(fun h_ => h_), (hat28 2 _ rfl)⟩, _, ⟨(fun h_ => h_), (hat28 3 _ rfl)⟩, ?_⟩
  obtain ⟨⟨h0_36, h1_37⟩, H⟩ := H
  obtain ⟨a34, ha35, hat33⟩ := Row.at (R1.ext hB) h0_36 h1_37
  refine ⟨h0_36, h1_37, a34, ha35, _, ⟨(fun h_ => h_), (hat33 0 _ rfl)⟩, _, ⟨(fun h_ => h_), (hat33 1 _ rfl)⟩, _, ⟨(fun h_ => h_), (hat33 2 _ rfl)⟩, _, ⟨(fun h_ => h_), (hat33 3 _ rfl)⟩, ?_⟩
  have hB := ethen hB (Ext.drew _)
  have hS27 := (Chg.refl (fun _ => False) w26).then (Ext.drew _)
  obtain ⟨r38, hr39, H⟩ := callO H
  refine (laws_eqAccess.con hr39 ).mono ?_
  rintro _ w41 ⟨rfl, e42⟩
  have hB := ethen hB e42
  have hS27 := hS27.then e42
  refine ⟨r38, rfl, sameBut_chg hS27, ?_⟩
  refine brc H (fun h H => ?_) fun h H => ?_
  ·cases hr.trans H.symm
   exact ⟨rfl, hB⟩
  obtain ⟨m43, hm44, hJ45⟩ := H
  exact ⟨m43, hm44, _, rfl, hJ45, hB⟩
 cases hr.trans H.symm
 exact ⟨rfl, hB⟩
def slices_IndexFunc_int_int.vc (A0 : OA) (n0 c0 f1 : Nat) (cap1 : Array Value) (w : World) (K : VK) : Prop :=
  LoopT (σ := Int × Unit) (fun z21 w22 next23 => bcase (decide (z21.1 < ((n0 : Nat) : Int))) ((idx z21.1 n0 A0 fun a24 => ldI w22 ((a24.add ((z21.1.toNat) * 1)).add 0) fun n25 => Cl f1 (#[(iv n25)] ++ cap1) w22 fun v26 w27 => (∃ (b28 : Bool), v26 = (.bool b28) ∧ bcase b28 (K (iv z21.1) w27) (next23 ((wrap .i64 (z21.1 + 1)), ()) w27)))) (K (iv (-1)) w22)) (0, ()) w

def slices_IndexFunc_int_int.ann : Ann := (.seq .l (.seq (.seq .l (.one (.loop [(8, .int .i64)] (.seq .l (.seq (.two .l .l) (.seq (.one (.seq .l (.seq .l (.two (.seq .l .l) .l)))) .l)))))) (.seq .l .l)))

theorem slices_IndexFunc_int_int.start {A0 : OA} {n0 c0 f1 : Nat} {cap1 : Array Value} {w : World} {K : Value → World → Prop} (h : slices_IndexFunc_int_int.vc A0 n0 c0 f1 cap1 w K) : Cl 146 #[(sv A0 n0 c0), (.func (.func f1) #[] cap1)] w K :=
  vcF_sound mixed (fn := Tryz.f146) (by kernel_rfl) (by kernel_rfl) (an := slices_IndexFunc_int_int.ann) (args := [(sv A0 n0 c0), (.func (.func f1) #[] cap1)]) (Eq.mpr (by kernel_rfl) h)

theorem slices_IndexFunc_int_int.con {xs0 : List Int} {A0 : OA} {c0 f1 : Nat} {cap1 : Array Value} {g1 : Int → Bool} {D1 : Int → Prop} {r : Int} {w : World} (hp : M.slices_IndexFunc_int_int_pre xs0 g1 D1) (hr : r = M.slices_IndexFunc_int_int xs0 g1) (R0 : Row el3 w A0 xs0) (hc0 : xs0.length ≤ c0) (F1 : ∀ (z0_ : Int), D1 z0_ → ∀ w_ : World, Ext w w_ → Cl f1 (#[(iv z0_)] ++ cap1) w_ (fun v_ w1_ => v_ = (.bool (g1 z0_)) ∧ Ext w_ w1_)) :
    Cl 146 #[(sv A0 xs0.length c0), (.func (.func f1) #[] cap1)] w (fun v_ w_ => v_ = (iv r) ∧ Ext w w_) := by
 have H := wp.slices_IndexFunc_int_int.math xs0 g1 D1 hp
 have hB := Ext.refl w
 refine slices_IndexFunc_int_int.start ?_
 unfold vc
 unfold wp.slices_IndexFunc_int_int at H
 obtain ⟨J23, ⟨m44, hJ43⟩, hS24⟩ := H
 refine ⟨fun m_ z_ w_ => ∃ (i21 : Int), z_ = (i21, ()) ∧ J23 m_ (i21, ()) ∧ Ext w w_, ⟨m44, 0, rfl, hJ43, hB⟩, ?_⟩
 rintro m22 _ w26 ⟨i21, rfl, hJ45, hB⟩
 have H := hS24 m22 _ hJ45
 clear hS24 hJ45
 try dsimp only at H ⊢
 refine brc H (fun h H => ?_) fun h H => ?_
 ·obtain ⟨⟨h0_30, h1_31⟩, H⟩ := H
  obtain ⟨a28, ha29, hat27⟩ := Row.at (R0.ext hB) h0_30 h1_31
  refine ⟨h0_30, h1_31, a28, ha29, _, (hat27 0 _ rfl), ?_⟩
  obtain ⟨hd34, H⟩ := H
  obtain ⟨r32, hr33, H⟩ := callO H
  refine (F1 (rd xs0 i21) hd34 _ hB).mono ?_
  rintro _ w35 ⟨rfl, e36⟩
  rw [← hr33]
  have hB := ethen hB e36
  refine ⟨r32, rfl, ?_⟩
  refine brc H (fun h H => ?_) fun h H => ?_
  ·cases hr.trans H.symm
   exact ⟨rfl, hB⟩
  obtain ⟨m37, hm38, hJ39⟩ := H
  exact ⟨m37, hm38, _, rfl, hJ39, hB⟩
 cases hr.trans H.symm
 exact ⟨rfl, hB⟩
def slices_ContainsFunc_int_int.vc (A0 : OA) (n0 c0 f1 : Nat) (cap1 : Array Value) (w : World) (K : VK) : Prop :=
  Cl 146 #[(sv A0 n0 c0), (.func (.func f1) #[] cap1)] w fun v21 w22 => (∃ (n23 : Int), v21 = (iv n23) ∧ K (.bool (decide (n23 ≥ 0))) w22)

def slices_ContainsFunc_int_int.ann : Ann := (.seq .l (.seq .l .l))

theorem slices_ContainsFunc_int_int.start {A0 : OA} {n0 c0 f1 : Nat} {cap1 : Array Value} {w : World} {K : Value → World → Prop} (h : slices_ContainsFunc_int_int.vc A0 n0 c0 f1 cap1 w K) : Cl 90 #[(sv A0 n0 c0), (.func (.func f1) #[] cap1)] w K :=
  vcF_sound mixed (fn := Tryz.f90) (by kernel_rfl) (by kernel_rfl) (an := slices_ContainsFunc_int_int.ann) (args := [(sv A0 n0 c0), (.func (.func f1) #[] cap1)]) (Eq.mpr (by kernel_rfl) h)

theorem slices_ContainsFunc_int_int.con {xs0 : List Int} {A0 : OA} {c0 f1 : Nat} {cap1 : Array Value} {g1 : Int → Bool} {D1 : Int → Prop} {r : Bool} {w : World} (hp : M.slices_ContainsFunc_int_int_pre xs0 g1 D1) (hr : r = M.slices_ContainsFunc_int_int xs0 g1) (R0 : Row el3 w A0 xs0) (hc0 : xs0.length ≤ c0) (F1 : ∀ (z0_ : Int), D1 z0_ → ∀ w_ : World, Ext w w_ → Cl f1 (#[(iv z0_)] ++ cap1) w_ (fun v_ w1_ => v_ = (.bool (g1 z0_)) ∧ Ext w_ w1_)) :
    Cl 90 #[(sv A0 xs0.length c0), (.func (.func f1) #[] cap1)] w (fun v_ w_ => v_ = (.bool r) ∧ Ext w w_) := by
 have H := wp.slices_ContainsFunc_int_int.math xs0 g1 D1 hp
 have hB := Ext.refl w
 refine slices_ContainsFunc_int_int.start ?_
 unfold vc
 unfold wp.slices_ContainsFunc_int_int at H
 obtain ⟨hp23, H⟩ := H
 obtain ⟨r21, hr22, H⟩ := callO H
 refine (slices_IndexFunc_int_int.con hp23 hr22 (R0.ext hB) hc0 (fun z0_  h_ w_ e_ => F1 z0_  h_ w_ (ethen hB e_))).mono ?_
 rintro _ w24 ⟨rfl, e25⟩
 have hB := ethen hB e25
 refine ⟨r21, rfl, ?_⟩
 cases hr.trans H.symm
 exact ⟨rfl, hB⟩
def impl_AreWords_1.vc (x0 : Int) (w : World) (K : VK) : Prop :=
  Cl 178 #[(iv x0)] w fun v21 w22 => (∃ (b23 : Bool), v21 = (.bool b23) ∧ K (.bool (!b23)) w22)

def impl_AreWords_1.ann : Ann := (.seq .l (.seq .l .l))

theorem impl_AreWords_1.con {x0 : Int} {r : Bool} {w : World} (hr : r = M.impl_AreWords_1 x0)  :
    Cl 177 #[(iv x0)] w (fun v_ w_ => v_ = (.bool r) ∧ Ext w w_) := by
 have H := wp.impl_AreWords_1.math x0
 refine begK mixed Tryz.f177 ann (vc x0) ?_
 unfold vc
 unfold wp.impl_AreWords_1 at H
 obtain ⟨r21, hr22, H⟩ := callO H
 refine (impl_IsWord.con hr22 ).mono ?_
 rintro _ w24 ⟨rfl, e25⟩
 have hB := ethen (Ext.refl w) e25
 refine ⟨r21, rfl, ?_⟩
 cases hr.trans H.symm
 exact ⟨rfl, hB⟩
def impl_AreWords.vc (A0 : OA) (n0 c0 : Nat) (w : World) (K : VK) : Prop :=
  Cl 90 #[(sv A0 n0 c0), (.func (.func 177) #[] #[])] w fun v21 w22 => (∃ (b23 : Bool), v21 = (.bool b23) ∧ K (.bool (!b23)) w22)

def impl_AreWords.ann : Ann := (.seq .l (.seq .l .l))

theorem impl_AreWords.con {xs0 : List Int} {A0 : OA} {c0 : Nat} {r : Bool} {w : World} (hp : M.impl_AreWords_pre xs0) (hr : r = M.impl_AreWords xs0) (R0 : Row el3 w A0 xs0) (hc0 : xs0.length ≤ c0) :
    Cl 136 #[(sv A0 xs0.length c0)] w (fun v_ w_ => v_ = (.bool r) ∧ Ext w w_) := by
 have H := wp.impl_AreWords.math xs0 hp
 have hB := Ext.refl w
 refine begK mixed Tryz.f136 ann (vc A0 xs0.length c0) ?_
 unfold vc
 unfold wp.impl_AreWords at H
 obtain ⟨hp23, H⟩ := H
 obtain ⟨r21, hr22, H⟩ := callO H
 refine (slices_ContainsFunc_int_int.con hp23 hr22 (R0.ext hB) hc0 (fun z0_ h_ w_ e_ => cllApp (l1 := [_]) (l2 := []) (impl_AreWords_1.con rfl))).mono ?_
 rintro _ w24 ⟨rfl, e25⟩
 have hB := ethen hB e25
 refine ⟨r21, rfl, ?_⟩
 cases hr.trans H.symm
 exact ⟨rfl, hB⟩
def spec_IsMask.vc (x0 : Int) (w : World) (K : VK) : Prop :=
  Cl 99 #[(iv x0), (iv 0), (iv 255)] w fun v21 w22 => (∃ (b23 : Bool), v21 = (.bool b23) ∧ K (.bool b23) w22)

def spec_IsMask.ann : Ann := (.seq .l (.seq .l .l))

theorem spec_IsMask.con {x0 : Int} {r : Bool} {w : World} (hr : r = M.spec_IsMask x0)  :
    Cl 153 #[(iv x0)] w (fun v_ w_ => v_ = (.bool r) ∧ Ext w w_) := by
 have H := wp.spec_IsMask.math x0
 refine begK mixed Tryz.f153 ann (vc x0) ?_
 unfold vc
 unfold wp.spec_IsMask at H
 obtain ⟨r21, hr22, H⟩ := callO H
 refine (spec_l01In.con hr22 ).mono ?_
 rintro _ w24 ⟨rfl, e25⟩
 have hB := ethen (Ext.refl w) e25
 refine ⟨r21, rfl, ?_⟩
 cases hr.trans H.symm
 exact ⟨rfl, hB⟩
def spec_HasLane.vc (x0 x1 : Int) (w : World) (K : VK) : Prop :=
  Cl 153 #[(iv x0)] w fun v21 w22 => (∃ (b23 : Bool), v21 = (.bool b23) ∧ bcase b23 (Cl 99 #[(iv x1), (iv 0), (iv 7)] w22 fun v24 w25 => (∃ (b26 : Bool), v24 = (.bool b26) ∧ bcase b26 (((0 : Int) ≤ x1 ∧ K (.bool ((bitAnd .i64 (Int.fdiv x0 (2 ^ (min (x1.toNat) (IntKind.bits .i64)))) 1) == 1)) w25)) (K (.bool false) w25))) (K (.bool false) w22))

def spec_HasLane.ann : Ann := (.seq .l (.seq .l .l))

theorem spec_HasLane.con {x0 x1 : Int} {r : Bool} {w : World} (hr : r = M.spec_HasLane x0 x1)  :
    Cl 101 #[(iv x0), (iv x1)] w (fun v_ w_ => v_ = (.bool r) ∧ Ext w w_) := by
 have H := wp.spec_HasLane.math x0 x1
 refine begK mixed Tryz.f101 ann (vc x0 x1) ?_
 unfold vc
 unfold wp.spec_HasLane at H
 obtain ⟨r21, hr22, H⟩ := callO H
 refine (spec_IsMask.con hr22 ).mono ?_
 rintro _ w24 ⟨rfl, e25⟩
 have hB := ethen (Ext.refl w) e25
 refine ⟨r21, rfl, ?_⟩
 refine brc H (fun h H => ?_) fun h H => ?_
 ·obtain ⟨r26, hr27, H⟩ := callO H
  refine (spec_l01In.con hr27 ).mono ?_
  rintro _ w29 ⟨rfl, e30⟩
  have hB := ethen hB e30
  refine ⟨r26, rfl, ?_⟩
  refine brc H (fun h H => ?_) fun h H => ?_
  ·obtain ⟨hc31, H⟩ := H
   refine ⟨hc31, ?_⟩
   cases hr.trans H.symm
   exact ⟨rfl, hB⟩
  cases hr.trans H.symm
  exact ⟨rfl, hB⟩
 cases hr.trans H.symm
 exact ⟨rfl, hB⟩
def laws_szInsS.vc (A0 : OA) (n0 c0 : Nat) (x1 : Int) (w : World) (K : VK) : Prop :=
  bcase (decide ((wrap .i64 (x1 - ((n0 : Nat) : Int))) < 0)) (K (iv (-1)) w) (K (iv (wrap .i64 (x1 - ((n0 : Nat) : Int)))) w)

def laws_szInsS.ann : Ann := (.seq .l (.seq .l (.seq (.seq .l (.two (.seq .l .l) .l)) (.seq .l .l))))

theorem laws_szInsS.con {xs0 : List D.Ins} {A0 : OA} {c0 : Nat} {x1 r : Int} {w : World} (hp : M.laws_szInsS_pre xs0 x1) (hr : r = M.laws_szInsS xs0 x1) (R0 : Row el117 w A0 xs0) (hc0 : xs0.length ≤ c0) :
    Cl 43 #[(sv A0 xs0.length c0), (iv x1)] w (fun v_ w_ => v_ = (iv r) ∧ Ext w w_) := by
 have H := wp.laws_szInsS.math xs0 x1 hp
 have hB := Ext.refl w
 refine begK mixed Tryz.f43 ann (vc A0 xs0.length c0 x1) ?_
 unfold vc
 unfold wp.laws_szInsS at H
 refine brc H (fun h H => ?_) fun h H => ?_
 ·cases hr.trans H.symm
  exact ⟨rfl, hB⟩
 cases hr.trans H.symm
 exact ⟨rfl, hB⟩
def laws_toIns.vc (x0_0 x0_1 x0_2 x0_3 : Int) (w : World) (K : VK) : Prop :=
  newK w (.cells #[(iv x0_0), (iv x0_1), (iv x0_2), (iv x0_3)] 117) fun g21 w22 => newK w22 (.cells #[(iv 0), (iv 0), (iv 0), (iv 0)] 84) fun g23 w24 => newK w24 (.cells #[(iv 0), (iv 0), (iv 0), (iv 0)] 84) fun g25 w26 => ldI w26 (((bx g21).add 0).add 0) fun n27 => stCells ((bx g25).add 0) [(iv n27)] 0 w26 fun w28 => ldI w28 (((bx g21).add 1).add 0) fun n29 => stCells ((bx g25).add 1) [(iv n29)] 0 w28 fun w30 => ldI w30 (((bx g21).add 2).add 0) fun n31 => stCells ((bx g25).add 2) [(iv n31)] 0 w30 fun w32 => ldI w32 (((bx g21).add 3).add 0) fun n33 => stCells ((bx g25).add 3) [(iv n33)] 0 w32 fun w34 => ldI w34 ((bx g25).add 0) fun n35 => ldI w34 ((bx g25).add 1) fun n36 => ldI w34 ((bx g25).add 2) fun n37 => ldI w34 ((bx g25).add 3) fun n38 => stCells (bx g23) [(iv n35), (iv n36), (iv n37), (iv n38)] 0 w34 fun w39 => ldI w39 ((bx g23).add 0) fun n40 => ldI w39 ((bx g23).add 1) fun n41 => ldI w39 ((bx g23).add 2) fun n42 => ldI w39 ((bx g23).add 3) fun n43 => K (.agg #[(iv n40), (iv n41), (iv n42), (iv n43)]) w39

def laws_toIns.ann : Ann := (.seq .l (.seq .l (.seq .l (.seq .l (.seq .l (.seq .l (.seq .l .l)))))))

theorem laws_toIns.con {s0 r : D.Ins} {w : World} (hr : r = M.laws_toIns s0)  :
    Cl 103 #[(.agg (iC s0))] w (fun v_ w_ => v_ = (.agg (iC r)) ∧ Ext w w_) := by
 have H := wp.laws_toIns.math s0
 refine begK mixed Tryz.f103 ann (vc s0.Op s0.A s0.B s0.C) ?_
 unfold vc
 unfold wp.laws_toIns at H
 refine newBlk (fun g1_ w21 L1 O1 e22 => ?_)
 have hB := ethen (Ext.refl w) e22
 refine newBlk (fun g2_ w23 L2 P2 e24 => ?_)
 have O1 := O1.ext e24
 have O2 := P2
 have L2 := Nat.le_trans hB.size L2
 have hB := ethen hB e24
 refine newBlk (fun g3_ w25 L3 P3 e26 => ?_)
 have N1_3 := O1.ne L3
 have N2_3 := O2.ne L3
 have O1 := O1.ext e26
 have O2 := O2.ext e26
 have O3 := P3
 have L3 := Nat.le_trans hB.size L3
 have hB := ethen hB e26
 refine ⟨_, (O1.a 0), ?_⟩
 refine stB O3 0 #[(iv s0.Op), (iv 0), (iv 0), (iv 0)] (fun w27 P3 e28 => ?_)
 have O1_ := O1.chg e28 N1_3
 have O2_ := O2.chg e28 N2_3
 have O1 := O1_
 have O2 := O2_
 have hB := echg hB e28 L3
 have O3 := P3
 refine ⟨_, (O1.a 1), ?_⟩
 refine stB O3 1 #[(iv s0.Op), (iv s0.A), (iv 0), (iv 0)] (fun w29 P3 e30 => ?_)
 have O1_ := O1.chg e30 N1_3
 have O2_ := O2.chg e30 N2_3
 have O1 := O1_
 have O2 := O2_
 have hB := echg hB e30 L3
 have O3 := P3
 refine ⟨_, (O1.a 2), ?_⟩
 refine stB O3 2 #[(iv s0.Op), (iv s0.A), (iv s0.B), (iv 0)] (fun w31 P3 e32 => ?_)
 have O1_ := O1.chg e32 N1_3
 have O2_ := O2.chg e32 N2_3
 have O1 := O1_
 have hB := echg hB e32 L3
 have O3 := P3
 refine ⟨_, (O1.a 3), ?_⟩
 refine stBlk O3 (o := 3) (cs' := (iC s0)) rfl rfl (Nat.le_of_ble_eq_true rfl) rfl (fun w33 O3 e34 => ?_)
 have O2 := O2_.chg e34 N2_3
 have hB := echg hB e34 L3
 refine ⟨_, (O3.a 0), _, (O3.a 1), _, (O3.a 2), _, (O3.a 3), ?_⟩
 refine stBlk O2 (o := 0) (cs' := (iC s0)) rfl rfl (Nat.le_of_ble_eq_true rfl) rfl (fun w35 O2 e36 => ?_)
 have hB := echg hB e36 L2
 refine ⟨_, (O2.a 0), _, (O2.a 1), _, (O2.a 2), _, (O2.a 3), ?_⟩
 cases hr.trans H.symm
 exact ⟨rfl, hB⟩
def laws_toInsS.vc (A0 : OA) (n0 c0 : Nat) (w : World) (K : VK) : Prop :=
  vcMake Tryz.prog 30 ((n0 : Nat) : Int) ((n0 : Nat) : Int) w fun g21 w22 => LoopT (σ := Int × Unit) (fun z23 w24 next25 => bcase (decide (z23.1 < ((n0 : Nat) : Int))) ((idx z23.1 n0 A0 fun a26 => ldI w24 ((a26.add ((z23.1.toNat) * 4)).add 0) fun n27 => ldI w24 ((a26.add ((z23.1.toNat) * 4)).add 1) fun n28 => ldI w24 ((a26.add ((z23.1.toNat) * 4)).add 2) fun n29 => ldI w24 ((a26.add ((z23.1.toNat) * 4)).add 3) fun n30 => Cl 103 #[(.agg #[(iv n27), (iv n28), (iv n29), (iv n30)])] w24 fun v31 w32 => (∃ (n33 : Int), True ∧ ∃ (n34 : Int), True ∧ ∃ (n35 : Int), True ∧ ∃ (n36 : Int), True ∧ v31 = (.agg #[(iv n33), (iv n34), (iv n35), (iv n36)]) ∧ (idx z23.1 (((n0 : Nat) : Int).toNat) ((some (bx g21))) fun a37 => stCells (a37.add ((z23.1.toNat) * 4)) [(iv n33), (iv n34), (iv n35), (iv n36)] 0 w32 fun w38 => next25 ((wrap .i64 (z23.1 + 1)), ()) w38)))) (K (sv (some (bx g21)) (((n0 : Nat) : Int).toNat) (((n0 : Nat) : Int).toNat)) w24)) (0, ()) w22

def laws_toInsS.ann : Ann := (.seq .l (.seq .l (.seq (.seq .l (.one (.loop [(4, .int .i64)] (.seq (.seq .l (.two .l .l)) (.seq (.one .l) .l))))) (.seq .l .l))))

theorem laws_toInsS.con {xs0 r : List D.Ins} {A0 : OA} {c0 : Nat} {w : World} (hp : M.laws_toInsS_pre xs0) (hr : r = M.laws_toInsS xs0) (R0 : Row el117 w A0 xs0) (hc0 : xs0.length ≤ c0) :
    Cl 47 #[(sv A0 xs0.length c0)] w (fun v_ w_ => ∃ (A0_ : OA) (c0_ : Nat), v_ = (sv A0_ r.length c0_) ∧ Own el84 w_ w.heap.size A0_ c0_ r ∧ Ext w w_) := by
 have H := wp.laws_toInsS.math xs0 hp
 have hB := Ext.refl w
 refine begK mixed Tryz.f47 ann (vc A0 xs0.length c0) ?_
 unfold vc
 unfold wp.laws_toInsS at H
 obtain ⟨⟨h0_24, h1_25⟩, H⟩ := H
 refine makeOwn slt30 h0_24 h1_25 (fun g21 w22 P2 e23 => ?_)
 have O2 := P2.mono hB.size
 have hB := ethen hB e23
 obtain ⟨J54, ⟨m82, hJ81⟩, hS55⟩ := H
 refine ⟨fun m_ z_ w_ => ∃ (i50 : Int) (xs51 : List D.Ins), z_ = (i50, ()) ∧ J54 m_ (i50, xs51, ()) ∧ Ext w w_ ∧ Own el84 w_ w.heap.size (some (bx g21)) ((xs0.length : Int).toNat) xs51 ∧ ((xs0.length : Int).toNat) = xs51.length, ⟨m82, 0, (List.replicate ((xs0.length : Int).toNat) (default : D.Ins)), rfl, hJ81, hB, O2, (by first | rfl | assumption | omega | (simp; done) | (simp; omega) | (simp; assumption))⟩, ?_⟩
 rintro m53 _ w57 ⟨i50, xs51, rfl, hJ83, hB, O2, hn52⟩
 have H := hS55 m53 _ hJ83
 clear hS55 hJ83
 try dsimp only at H ⊢
 refine brc H (fun h H => ?_) fun h H => ?_
 ·obtain ⟨⟨h0_61, h1_62⟩, H⟩ := H
  obtain ⟨a59, ha60, hat58⟩ := Row.at (R0.ext hB) h0_61 h1_62
  refine ⟨h0_61, h1_62, a59, ha60, _, (hat58 0 _ rfl), _, (hat58 1 _ rfl), _, (hat58 2 _ rfl), _, (hat58 3 _ rfl), ?_⟩
  obtain ⟨r63, hr64, H⟩ := callO H
  refine (laws_toIns.con hr64 ).mono ?_
  rintro _ w66 ⟨rfl, e67⟩
  have O2 := O2.ext e67
  have hB := ethen hB e67
  refine ⟨r63.Op, trivial, r63.A, trivial, r63.B, trivial, r63.C, trivial, rfl, ?_⟩
  obtain ⟨⟨h0_71, h1_72⟩, H⟩ := H
  obtain ⟨a69, ha70, hat68⟩ := Row.at O2.row h0_71 h1_72
  refine ⟨h0_71, (by first | exact h1_72 | omega | (simp at h1_72 ⊢; omega)), a69, ha70, ?_⟩
  refine Own.stA O2 ha70 h0_71 h1_72 0 (⟨r63.Op, r63.A, r63.B, r63.C⟩ : D.Ins) (fun w73 O2 e74 hb75 => ?_)
  have hB := echg hB e74 hb75
  obtain ⟨m76, hm77, hJ78⟩ := H
  exact ⟨m76, hm77, _, _, rfl, hJ78, hB, O2, (by first | rfl | assumption | omega | (simp; done) | (simp; omega) | (simp; assumption))⟩
 cases hr.trans H.symm
 exact ⟨(some (bx g21)), ((xs0.length : Int).toNat), (by first | rfl | (rw [hn52]; done) | (simp; done) | (simp; omega) | (simp [*]; done)), (by first | exact O2 | (simp only [bC, wC, List.length_set]; exact O2) | (rw [← hn52]; exact O2)), hB⟩
def laws_eqIns.vc (x0_0 x0_1 x0_2 x0_3 x1_0 x1_1 x1_2 x1_3 : Int) (w : World) (K : VK) : Prop :=
  newK w (.cells #[(iv x0_0), (iv x0_1), (iv x0_2), (iv x0_3)] 84) fun g21 w22 => newK w22 (.cells #[(iv x1_0), (iv x1_1), (iv x1_2), (iv x1_3)] 84) fun g23 w24 => ldI w24 (((bx g21).add 0).add 0) fun n25 => ldI w24 (((bx g23).add 0).add 0) fun n26 => bcase (n25 != n26) (K (.bool false) w24) (ldI w24 (((bx g21).add 1).add 0) fun n27 => ldI w24 (((bx g23).add 1).add 0) fun n28 => bcase (n27 != n28) (K (.bool false) w24) (ldI w24 (((bx g21).add 2).add 0) fun n29 => ldI w24 (((bx g23).add 2).add 0) fun n30 => bcase (n29 != n30) (K (.bool false) w24) (ldI w24 (((bx g21).add 3).add 0) fun n31 => ldI w24 (((bx g23).add 3).add 0) fun n32 => bcase (n31 != n32) (K (.bool false) w24) (K (.bool true) w24))))

def laws_eqIns.ann : Ann := (.seq .l (.seq (.seq .l (.two (.seq .l .l) .l)) (.seq (.seq .l (.two (.seq .l .l) .l)) (.seq (.seq .l (.two (.seq .l .l) .l)) (.seq (.seq .l (.two (.seq .l .l) .l)) (.seq .l .l))))))

theorem laws_eqIns.con {s0 s1 : D.Ins} {r : Bool} {w : World} (hr : r = M.laws_eqIns s0 s1)  :
    Cl 112 #[(.agg (iC s0)), (.agg (iC s1))] w (fun v_ w_ => v_ = (.bool r) ∧ Ext w w_) := by
 have H := wp.laws_eqIns.math s0 s1
 refine begK mixed Tryz.f112 ann (vc s0.Op s0.A s0.B s0.C s1.Op s1.A s1.B s1.C) ?_
 unfold vc
 unfold wp.laws_eqIns at H
 refine newBlk (fun g1_ w21 L1 O1 e22 => ?_)
 refine newBlk (fun g2_ w23 L2 O2 e24 => ?_)
 have O1 := O1.ext e24
 have hB := ethen (ethen (Ext.refl w) e22) e24
 refine ⟨_, (O1.a 0), _, (O2.a 0), ?_⟩
 refine brc H (fun h H => ?_) fun h H => ?_
 ·cases hr.trans H.symm
  exact ⟨rfl, hB⟩
 refine ⟨_, (O1.a 1), _, (O2.a 1), ?_⟩
 refine brc H (fun h H => ?_) fun h H => ?_
 ·cases hr.trans H.symm
  exact ⟨rfl, hB⟩
 refine ⟨_, (O1.a 2), _, (O2.a 2), ?_⟩
 refine brc H (fun h H => ?_) fun h H => ?_
 ·cases hr.trans H.symm
  exact ⟨rfl, hB⟩
 refine ⟨_, (O1.a 3), _, (O2.a 3), ?_⟩
 refine brc H (fun h H => ?_) fun h H => ?_
 ·cases hr.trans H.symm
  exact ⟨rfl, hB⟩
 cases hr.trans H.symm
 exact ⟨rfl, hB⟩
def laws_eqInsS.vc (A0 : OA) (n0 c0 : Nat) (A1 : OA) (n1 c1 : Nat) (w : World) (K : VK) : Prop :=
  bcase (((n0 : Nat) : Int) != ((n1 : Nat) : Int)) (K (.bool false) w) (LoopT (σ := Int × Unit) (fun z21 w22 next23 => bcase (decide (z21.1 < ((n0 : Nat) : Int))) ((∃ M24 : Nat → Prop, (idx z21.1 n0 A0 fun a25 => ldIM M24 w22 (a25.add ((z21.1.toNat) * 4)) 0 fun n26 => ldIM M24 w22 (a25.add ((z21.1.toNat) * 4)) 1 fun n27 => ldIM M24 w22 (a25.add ((z21.1.toNat) * 4)) 2 fun n28 => ldIM M24 w22 (a25.add ((z21.1.toNat) * 4)) 3 fun n29 => (idx z21.1 n1 A1 fun a30 => ldIM M24 w22 (a30.add ((z21.1.toNat) * 4)) 0 fun n31 => ldIM M24 w22 (a30.add ((z21.1.toNat) * 4)) 1 fun n32 => ldIM M24 w22 (a30.add ((z21.1.toNat) * 4)) 2 fun n33 => ldIM M24 w22 (a30.add ((z21.1.toNat) * 4)) 3 fun n34 => Cl 112 #[(.agg #[(iv n26), (iv n27), (iv n28), (iv n29)]), (.agg #[(iv n31), (iv n32), (iv n33), (iv n34)])] w22.drew fun v35 w36 => (∃ (b37 : Bool), v35 = (.bool b37) ∧ SameBut M24 w22 w36 ∧ bcase (!b37) (K (.bool false) w36) (next23 ((wrap .i64 (z21.1 + 1)), ()) w36)))))) (K (.bool true) w22)) (0, ()) w)

def laws_eqInsS.ann : Ann := (.seq .l (.seq (.seq .l (.two (.seq .l .l) .l)) (.seq (.seq .l (.one (.loop [(5, .int .i64)] (.seq (.seq .l (.two .l .l)) (.seq (.one (.seq .l (.two (.seq .l .l) .l))) .l))))) (.seq .l .l))))

theorem laws_eqInsS.con {xs0 xs1 : List D.Ins} {A0 A1 : OA} {c0 c1 : Nat} {r : Bool} {w : World} (hp : M.laws_eqInsS_pre xs0 xs1) (hr : r = M.laws_eqInsS xs0 xs1) (R0 : Row el84 w A0 xs0) (hc0 : xs0.length ≤ c0) (R1 : Row el84 w A1 xs1) (hc1 : xs1.length ≤ c1) :
    Cl 52 #[(sv A0 xs0.length c0), (sv A1 xs1.length c1)] w (fun v_ w_ => v_ = (.bool r) ∧ Ext w w_) := by
 have H := wp.laws_eqInsS.math xs0 xs1 hp
 have hB := Ext.refl w
 refine begK mixed Tryz.f52 ann (vc A0 xs0.length c0 A1 xs1.length c1) ?_
 unfold vc
 unfold wp.laws_eqInsS at H
 refine brc H (fun h H => ?_) fun h H => ?_
 ·cases hr.trans H.symm
  exact ⟨rfl, hB⟩
 obtain ⟨J23, ⟨m50, hJ49⟩, hS24⟩ := H
 refine ⟨fun m_ z_ w_ => ∃ (i21 : Int), z_ = (i21, ()) ∧ J23 m_ (i21, ()) ∧ Ext w w_, ⟨m50, 0, rfl, hJ49, hB⟩, ?_⟩
 rintro m22 _ w26 ⟨i21, rfl, hJ51, hB⟩
 have H := hS24 m22 _ hJ51
 clear hS24 hJ51
 try dsimp only at H ⊢
 refine brc H (fun h H => ?_) fun h H => ?_
 ·refine ⟨(fun _ => False), ?_⟩
  obtain ⟨⟨h0_31, h1_32⟩, H⟩ := H
  obtain ⟨a29, ha30, hat28⟩ := Row.at (R0.ext hB) h0_31 h1_32
  refine ⟨h0_31, h1_32, a29, ha30, _, ⟨(fun h_ => h_), (hat28 0 _ rfl)⟩, _, ⟨(fun h_ => h_), (hat28 1 _ rfl)⟩, _, ⟨(fun h_ => h_), (hat28 2 _ rfl)⟩, _, ⟨(fun h_ => h_), (hat28 3 _ rfl)⟩, ?_⟩
  obtain ⟨⟨h0_36, h1_37⟩, H⟩ := H
  obtain ⟨a34, ha35, hat33⟩ := Row.at (R1.ext hB) h0_36 h1_37
  refine ⟨h0_36, h1_37, a34, ha35, _, ⟨(fun h_ => h_), (hat33 0 _ rfl)⟩, _, ⟨(fun h_ => h_), (hat33 1 _ rfl)⟩, _, ⟨(fun h_ => h_), (hat33 2 _ rfl)⟩, _, ⟨(fun h_ => h_), (hat33 3 _ rfl)⟩, ?_⟩
  have hB := ethen hB (Ext.drew _)
  have hS27 := (Chg.refl (fun _ => False) w26).then (Ext.drew _)
  obtain ⟨r38, hr39, H⟩ := callO H
  refine (laws_eqIns.con hr39 ).mono ?_
  rintro _ w41 ⟨rfl, e42⟩
  have hB := ethen hB e42
  have hS27 := hS27.then e42
  refine ⟨r38, rfl, sameBut_chg hS27, ?_⟩
  refine brc H (fun h H => ?_) fun h H => ?_
  ·cases hr.trans H.symm
   exact ⟨rfl, hB⟩
  obtain ⟨m43, hm44, hJ45⟩ := H
  exact ⟨m43, hm44, _, rfl, hJ45, hB⟩
 cases hr.trans H.symm
 exact ⟨rfl, hB⟩
def spec_IsLocal.vc (x0_0 x0_1 x0_2 x0_3 : Int) (w : World) (K : VK) : Prop :=
  newK w (.cells #[(iv x0_0), (iv x0_1), (iv x0_2), (iv x0_3)] 84) fun g21 w22 => ldI w22 (((bx g21).add 0).add 0) fun n23 => Cl 99 #[(iv n23), (iv 0), (iv 12)] w22 fun v24 w25 => (∃ (b26 : Bool), v24 = (.bool b26) ∧ K (.bool b26) w25)

def spec_IsLocal.ann : Ann := (.seq .l (.seq .l .l))

theorem spec_IsLocal.con {s0 : D.Ins} {r : Bool} {w : World} (hr : r = M.spec_IsLocal s0)  :
    Cl 124 #[(.agg (iC s0))] w (fun v_ w_ => v_ = (.bool r) ∧ Ext w w_) := by
 have H := wp.spec_IsLocal.math s0
 refine begK mixed Tryz.f124 ann (vc s0.Op s0.A s0.B s0.C) ?_
 unfold vc
 unfold wp.spec_IsLocal at H
 refine newBlk (fun g1_ w21 L1 O1 e22 => ?_)
 refine ⟨_, (O1.a 0), ?_⟩
 obtain ⟨r23, hr24, H⟩ := callO H
 refine (spec_l01In.con hr24 ).mono ?_
 rintro _ w26 ⟨rfl, e27⟩
 have hB := ethen (ethen (Ext.refl w) e22) e27
 refine ⟨r23, rfl, ?_⟩
 cases hr.trans H.symm
 exact ⟨rfl, hB⟩
def spec_l04Reg.vc (x0 : Int) (w : World) (K : VK) : Prop :=
  Cl 99 #[(iv x0), (iv 0), (iv 3)] w fun v21 w22 => (∃ (b23 : Bool), v21 = (.bool b23) ∧ K (.bool b23) w22)

def spec_l04Reg.ann : Ann := (.seq .l (.seq .l .l))

theorem spec_l04Reg.con {x0 : Int} {r : Bool} {w : World} (hr : r = M.spec_l04Reg x0)  :
    Cl 220 #[(iv x0)] w (fun v_ w_ => v_ = (.bool r) ∧ Ext w w_) := by
 have H := wp.spec_l04Reg.math x0
 refine begK mixed Tryz.f220 ann (vc x0) ?_
 unfold vc
 unfold wp.spec_l04Reg at H
 obtain ⟨r21, hr22, H⟩ := callO H
 refine (spec_l01In.con hr22 ).mono ?_
 rintro _ w24 ⟨rfl, e25⟩
 have hB := ethen (Ext.refl w) e25
 refine ⟨r21, rfl, ?_⟩
 cases hr.trans H.symm
 exact ⟨rfl, hB⟩
def spec_InsOk.vc (x0_0 x0_1 x0_2 x0_3 x1 : Int) (w : World) (K : VK) : Prop :=
  newK w (.cells #[(iv x0_0), (iv x0_1), (iv x0_2), (iv x0_3)] 84) fun g21 w22 => Cl 99 #[(iv x1), (iv 0), (iv 32)] w22 fun v23 w24 => (∃ (b25 : Bool), v23 = (.bool b25) ∧ bcase (!b25) (K (.bool false) w24) (ldI w24 (((bx g21).add 0).add 0) fun n27 => JoinT (σ := Bool × Unit) (fun J28 => bcase (n27 == 0) (J28 (true, ()) w24) (bcase (n27 == 12) (J28 (true, ()) w24) (J28 ((n27 == 16), ()) w24))) fun z29 w30 => bcase z29.1 (ldI w30 (((bx g21).add 1).add 0) fun n31 => bcase (n31 == 0) (ldI w30 (((bx g21).add 2).add 0) fun n32 => bcase (n32 == 0) (ldI w30 (((bx g21).add 3).add 0) fun n33 => K (.bool (n33 == 0)) w30) (K (.bool false) w30)) (K (.bool false) w30)) (bcase (n27 == 1) (ldI w30 (((bx g21).add 1).add 0) fun n34 => Cl 220 #[(iv n34)] w30 fun v35 w36 => (∃ (b37 : Bool), v35 = (.bool b37) ∧ bcase b37 (ldI w36 (((bx g21).add 2).add 0) fun n38 => Cl 204 #[(iv n38)] w36 fun v39 w40 => (∃ (b41 : Bool), v39 = (.bool b41) ∧ bcase b41 (ldI w40 (((bx g21).add 3).add 0) fun n42 => K (.bool (n42 == 0)) w40) (K (.bool false) w40))) (K (.bool false) w36))) (JoinT (σ := Bool × Unit) (fun J43 => bcase (n27 == 2) (J43 (true, ()) w30) (bcase (n27 == 13) (J43 (true, ()) w30) (bcase (n27 == 14) (J43 (true, ()) w30) (J43 ((n27 == 15), ()) w30)))) fun z44 w45 => bcase z44.1 (ldI w45 (((bx g21).add 1).add 0) fun n46 => Cl 220 #[(iv n46)] w45 fun v47 w48 => (∃ (b49 : Bool), v47 = (.bool b49) ∧ bcase b49 (ldI w48 (((bx g21).add 2).add 0) fun n50 => Cl 220 #[(iv n50)] w48 fun v51 w52 => (∃ (b53 : Bool), v51 = (.bool b53) ∧ bcase b53 (ldI w52 (((bx g21).add 3).add 0) fun n54 => K (.bool (n54 == 0)) w52) (K (.bool false) w52))) (K (.bool false) w48))) (bcase (n27 == 8) (ldI w45 (((bx g21).add 1).add 0) fun n55 => Cl 220 #[(iv n55)] w45 fun v56 w57 => (∃ (b58 : Bool), v56 = (.bool b58) ∧ bcase b58 (ldI w57 (((bx g21).add 2).add 0) fun n59 => bcase (n59 == 0) (ldI w57 (((bx g21).add 3).add 0) fun n60 => K (.bool (n60 == 0)) w57) (K (.bool false) w57)) (K (.bool false) w57))) (bcase (n27 == 10) (ldI w45 (((bx g21).add 1).add 0) fun n61 => Cl 220 #[(iv n61)] w45 fun v62 w63 => (∃ (b64 : Bool), v62 = (.bool b64) ∧ bcase b64 (ldI w63 (((bx g21).add 2).add 0) fun n65 => Cl 99 #[(iv n65), (iv 0), (iv x1)] w63 fun v66 w67 => (∃ (b68 : Bool), v66 = (.bool b68) ∧ bcase b68 (ldI w67 (((bx g21).add 3).add 0) fun n69 => K (.bool (n69 == 0)) w67) (K (.bool false) w67))) (K (.bool false) w63))) (bcase (n27 == 11) (ldI w45 (((bx g21).add 1).add 0) fun n70 => bcase (n70 == 0) (ldI w45 (((bx g21).add 2).add 0) fun n71 => Cl 99 #[(iv n71), (iv 0), (iv x1)] w45 fun v72 w73 => (∃ (b74 : Bool), v72 = (.bool b74) ∧ bcase b74 (ldI w73 (((bx g21).add 3).add 0) fun n75 => K (.bool (n75 == 0)) w73) (K (.bool false) w73))) (K (.bool false) w45)) (ldI w45 (((bx g21).add 0).add 0) fun n76 => Cl 99 #[(iv n76), (iv 3), (iv 9)] w45 fun v77 w78 => (∃ (b79 : Bool), v77 = (.bool b79) ∧ bcase b79 (ldI w78 (((bx g21).add 1).add 0) fun n80 => Cl 220 #[(iv n80)] w78 fun v81 w82 => (∃ (b83 : Bool), v81 = (.bool b83) ∧ bcase b83 (ldI w82 (((bx g21).add 2).add 0) fun n84 => Cl 220 #[(iv n84)] w82 fun v85 w86 => (∃ (b87 : Bool), v85 = (.bool b87) ∧ bcase b87 (ldI w86 (((bx g21).add 3).add 0) fun n88 => Cl 220 #[(iv n88)] w86 fun v89 w90 => (∃ (b91 : Bool), v89 = (.bool b91) ∧ K (.bool b91) w90)) (K (.bool false) w86))) (K (.bool false) w82))) (K (.bool false) w78))))))))))

def spec_InsOk.ann : Ann := (.seq .l (.seq (.seq .l (.two (.seq .l .l) .l)) (.seq (.seq .l (.one (.cut [(10, .bool)] (.seq .l (.two .l (.seq .l (.two .l .l)))) (.two (.seq .l .l) (.seq .l (.two (.seq .l .l) (.cut [(42, .bool)] (.seq .l (.two .l (.seq .l (.two .l (.seq .l (.two .l .l)))))) (.two (.seq .l .l) (.seq .l (.two (.seq .l .l) (.seq .l (.two (.seq .l .l) (.seq .l (.two (.seq .l .l) .l)))))))))))))) (.seq .l .l))))

theorem spec_InsOk.con {s0 : D.Ins} {x1 : Int} {r : Bool} {w : World} (hr : r = M.spec_InsOk s0 x1)  :
    Cl 198 #[(.agg (iC s0)), (iv x1)] w (fun v_ w_ => v_ = (.bool r) ∧ Ext w w_) := by
 have H := wp.spec_InsOk.math s0 x1
 refine begK mixed Tryz.f198 ann (vc s0.Op s0.A s0.B s0.C x1) ?_
 unfold vc
 unfold wp.spec_InsOk at H
 refine newBlk (fun g1_ w21 L1 O1 e22 => ?_)
 obtain ⟨r23, hr24, H⟩ := callO H
 refine (spec_l01In.con hr24 ).mono ?_
 rintro _ w26 ⟨rfl, e27⟩
 have O1 := O1.ext e27
 have hB := ethen (ethen (Ext.refl w) e22) e27
 refine ⟨r23, rfl, ?_⟩
 refine brc H (fun h H => ?_) fun h H => ?_
 ·cases hr.trans H.symm
  exact ⟨rfl, hB⟩
 refine ⟨_, (O1.a 0), ?_⟩
 obtain ⟨K125, hKK125, H⟩ := joinP_out H
 refine ⟨fun z_ w_ => ∃ (b28 : Bool), z_ = (b28, ()) ∧ K125 (b28, ()) ∧ Ext w w_ ∧ Blk w_ g1_ 84 (iC s0), ?_, ?_⟩
 ·refine brc H (fun h H => ?_) fun h H => ?_
  ·exact ⟨true, rfl, H, hB, O1⟩
  refine brc H (fun h H => ?_) fun h H => ?_
  ·exact ⟨true, rfl, H, hB, O1⟩
  exact ⟨_, rfl, H, hB, O1⟩
 rintro _ w30 ⟨b28, rfl, H, hB, O1⟩
 have H := hKK125 _ H
 try dsimp only at H ⊢
 refine brc H (fun h H => ?_) fun h H => ?_
 ·refine ⟨_, (O1.a 1), ?_⟩
  refine brc H (fun h H => ?_) fun h H => ?_
  ·refine ⟨_, (O1.a 2), ?_⟩
   refine brc H (fun h H => ?_) fun h H => ?_
   ·refine ⟨_, (O1.a 3), ?_⟩
    cases hr.trans H.symm
    exact ⟨rfl, hB⟩
   cases hr.trans H.symm
   exact ⟨rfl, hB⟩
  cases hr.trans H.symm
  exact ⟨rfl, hB⟩
 refine brc H (fun h H => ?_) fun h H => ?_
 ·refine ⟨_, (O1.a 1), ?_⟩
  obtain ⟨r36, hr37, H⟩ := callO H
  refine (spec_l04Reg.con hr37 ).mono ?_
  rintro _ w39 ⟨rfl, e40⟩
  have O1 := O1.ext e40
  have hB := ethen hB e40
  refine ⟨r36, rfl, ?_⟩
  refine brc H (fun h H => ?_) fun h H => ?_
  ·refine ⟨_, (O1.a 2), ?_⟩
   obtain ⟨r41, hr42, H⟩ := callO H
   refine (spec_IsWord.con hr42 ).mono ?_
   rintro _ w44 ⟨rfl, e45⟩
   have O1 := O1.ext e45
   have hB := ethen hB e45
   refine ⟨r41, rfl, ?_⟩
   refine brc H (fun h H => ?_) fun h H => ?_
   ·refine ⟨_, (O1.a 3), ?_⟩
    cases hr.trans H.symm
    exact ⟨rfl, hB⟩
   cases hr.trans H.symm
   exact ⟨rfl, hB⟩
  cases hr.trans H.symm
  exact ⟨rfl, hB⟩
 obtain ⟨K121, hKK121, H⟩ := joinP_out H
 refine ⟨fun z_ w_ => ∃ (b48 : Bool), z_ = (b48, ()) ∧ K121 (b48, ()) ∧ Ext w w_ ∧ Blk w_ g1_ 84 (iC s0), ?_, ?_⟩
 ·refine brc H (fun h H => ?_) fun h H => ?_
  ·exact ⟨true, rfl, H, hB, O1⟩
  refine brc H (fun h H => ?_) fun h H => ?_
  ·exact ⟨true, rfl, H, hB, O1⟩
  refine brc H (fun h H => ?_) fun h H => ?_
  ·exact ⟨true, rfl, H, hB, O1⟩
  exact ⟨_, rfl, H, hB, O1⟩
 rintro _ w50 ⟨b48, rfl, H, hB, O1⟩
 have H := hKK121 _ H
 try dsimp only at H ⊢
 refine brc H (fun h H => ?_) fun h H => ?_
 ·refine ⟨_, (O1.a 1), ?_⟩
  obtain ⟨r55, hr56, H⟩ := callO H
  refine (spec_l04Reg.con hr56 ).mono ?_
  rintro _ w58 ⟨rfl, e59⟩
  have O1 := O1.ext e59
  have hB := ethen hB e59
  refine ⟨r55, rfl, ?_⟩
  refine brc H (fun h H => ?_) fun h H => ?_
  ·refine ⟨_, (O1.a 2), ?_⟩
   obtain ⟨r60, hr61, H⟩ := callO H
   refine (spec_l04Reg.con hr61 ).mono ?_
   rintro _ w63 ⟨rfl, e64⟩
   have O1 := O1.ext e64
   have hB := ethen hB e64
   refine ⟨r60, rfl, ?_⟩
   refine brc H (fun h H => ?_) fun h H => ?_
   ·refine ⟨_, (O1.a 3), ?_⟩
    cases hr.trans H.symm
    exact ⟨rfl, hB⟩
   cases hr.trans H.symm
   exact ⟨rfl, hB⟩
  cases hr.trans H.symm
  exact ⟨rfl, hB⟩
 refine brc H (fun h H => ?_) fun h H => ?_
 ·refine ⟨_, (O1.a 1), ?_⟩
  obtain ⟨r67, hr68, H⟩ := callO H
  refine (spec_l04Reg.con hr68 ).mono ?_
  rintro _ w70 ⟨rfl, e71⟩
  have O1 := O1.ext e71
  have hB := ethen hB e71
  refine ⟨r67, rfl, ?_⟩
  refine brc H (fun h H => ?_) fun h H => ?_
  ·refine ⟨_, (O1.a 2), ?_⟩
   refine brc H (fun h H => ?_) fun h H => ?_
   ·refine ⟨_, (O1.a 3), ?_⟩
    cases hr.trans H.symm
    exact ⟨rfl, hB⟩
   cases hr.trans H.symm
   exact ⟨rfl, hB⟩
  cases hr.trans H.symm
  exact ⟨rfl, hB⟩
 refine brc H (fun h H => ?_) fun h H => ?_
 ·refine ⟨_, (O1.a 1), ?_⟩
  obtain ⟨r74, hr75, H⟩ := callO H
  refine (spec_l04Reg.con hr75 ).mono ?_
  rintro _ w77 ⟨rfl, e78⟩
  have O1 := O1.ext e78
  have hB := ethen hB e78
  refine ⟨r74, rfl, ?_⟩
  refine brc H (fun h H => ?_) fun h H => ?_
  ·refine ⟨_, (O1.a 2), ?_⟩
   obtain ⟨r79, hr80, H⟩ := callO H
   refine (spec_l01In.con hr80 ).mono ?_
   rintro _ w82 ⟨rfl, e83⟩
   have O1 := O1.ext e83
   have hB := ethen hB e83
   refine ⟨r79, rfl, ?_⟩
   refine brc H (fun h H => ?_) fun h H => ?_
   ·refine ⟨_, (O1.a 3), ?_⟩
    cases hr.trans H.symm
    exact ⟨rfl, hB⟩
   cases hr.trans H.symm
   exact ⟨rfl, hB⟩
  cases hr.trans H.symm
  exact ⟨rfl, hB⟩
 refine brc H (fun h H => ?_) fun h H => ?_
 ·refine ⟨_, (O1.a 1), ?_⟩
  refine brc H (fun h H => ?_) fun h H => ?_
  ·refine ⟨_, (O1.a 2), ?_⟩
   obtain ⟨r86, hr87, H⟩ := callO H
   refine (spec_l01In.con hr87 ).mono ?_
   rintro _ w89 ⟨rfl, e90⟩
   have O1 := O1.ext e90
   have hB := ethen hB e90
   refine ⟨r86, rfl, ?_⟩
   refine brc H (fun h H => ?_) fun h H => ?_
   ·refine ⟨_, (O1.a 3), ?_⟩
    cases hr.trans H.symm
    exact ⟨rfl, hB⟩
   cases hr.trans H.symm
   exact ⟨rfl, hB⟩
  cases hr.trans H.symm
  exact ⟨rfl, hB⟩
 refine ⟨_, (O1.a 0), ?_⟩
 obtain ⟨r93, hr94, H⟩ := callO H
 refine (spec_l01In.con hr94 ).mono ?_
 rintro _ w96 ⟨rfl, e97⟩
 have O1 := O1.ext e97
 have hB := ethen hB e97
 refine ⟨r93, rfl, ?_⟩
 refine brc H (fun h H => ?_) fun h H => ?_
 ·refine ⟨_, (O1.a 1), ?_⟩
  obtain ⟨r98, hr99, H⟩ := callO H
  refine (spec_l04Reg.con hr99 ).mono ?_
  rintro _ w101 ⟨rfl, e102⟩
  have O1 := O1.ext e102
  have hB := ethen hB e102
  refine ⟨r98, rfl, ?_⟩
  refine brc H (fun h H => ?_) fun h H => ?_
  ·refine ⟨_, (O1.a 2), ?_⟩
   obtain ⟨r103, hr104, H⟩ := callO H
   refine (spec_l04Reg.con hr104 ).mono ?_
   rintro _ w106 ⟨rfl, e107⟩
   have O1 := O1.ext e107
   have hB := ethen hB e107
   refine ⟨r103, rfl, ?_⟩
   refine brc H (fun h H => ?_) fun h H => ?_
   ·refine ⟨_, (O1.a 3), ?_⟩
    obtain ⟨r108, hr109, H⟩ := callO H
    refine (spec_l04Reg.con hr109 ).mono ?_
    rintro _ w111 ⟨rfl, e112⟩
    have hB := ethen hB e112
    refine ⟨r108, rfl, ?_⟩
    cases hr.trans H.symm
    exact ⟨rfl, hB⟩
   cases hr.trans H.symm
   exact ⟨rfl, hB⟩
  cases hr.trans H.symm
  exact ⟨rfl, hB⟩
 cases hr.trans H.symm
 exact ⟨rfl, hB⟩
def spec_ProgramOk.vc (A0 : OA) (n0 c0 : Nat) (w : World) (K : VK) : Prop :=
  LoopT (σ := Int × Unit) (fun z21 w22 next23 => bcase (decide (z21.1 < ((n0 : Nat) : Int))) ((idx z21.1 n0 A0 fun a24 => ldI w22 ((a24.add ((z21.1.toNat) * 4)).add 0) fun n25 => ldI w22 ((a24.add ((z21.1.toNat) * 4)).add 1) fun n26 => ldI w22 ((a24.add ((z21.1.toNat) * 4)).add 2) fun n27 => ldI w22 ((a24.add ((z21.1.toNat) * 4)).add 3) fun n28 => Cl 198 #[(.agg #[(iv n25), (iv n26), (iv n27), (iv n28)]), (iv ((n0 : Nat) : Int))] w22 fun v29 w30 => (∃ (b31 : Bool), v29 = (.bool b31) ∧ bcase (!b31) (K (.bool false) w30) (next23 ((wrap .i64 (z21.1 + 1)), ()) w30)))) (K (.bool (decide (((n0 : Nat) : Int) ≤ 32))) w22)) (0, ()) w

def spec_ProgramOk.ann : Ann := (.seq .l (.seq (.seq .l (.one (.loop [(3, .int .i64)] (.seq (.seq .l (.two .l .l)) (.seq (.one (.seq .l (.two (.seq .l .l) .l))) .l))))) (.seq .l .l)))

theorem spec_ProgramOk.con {xs0 : List D.Ins} {A0 : OA} {c0 : Nat} {r : Bool} {w : World} (hp : M.spec_ProgramOk_pre xs0) (hr : r = M.spec_ProgramOk xs0) (R0 : Row el84 w A0 xs0) (hc0 : xs0.length ≤ c0) :
    Cl 160 #[(sv A0 xs0.length c0)] w (fun v_ w_ => v_ = (.bool r) ∧ Ext w w_) := by
 have H := wp.spec_ProgramOk.math xs0 hp
 have hB := Ext.refl w
 refine begK mixed Tryz.f160 ann (vc A0 xs0.length c0) ?_
 unfold vc
 unfold wp.spec_ProgramOk at H
 obtain ⟨J23, ⟨m44, hJ43⟩, hS24⟩ := H
 refine ⟨fun m_ z_ w_ => ∃ (i21 : Int), z_ = (i21, ()) ∧ J23 m_ (i21, ()) ∧ Ext w w_, ⟨m44, 0, rfl, hJ43, hB⟩, ?_⟩
 rintro m22 _ w26 ⟨i21, rfl, hJ45, hB⟩
 have H := hS24 m22 _ hJ45
 clear hS24 hJ45
 try dsimp only at H ⊢
 refine brc H (fun h H => ?_) fun h H => ?_
 ·obtain ⟨⟨h0_30, h1_31⟩, H⟩ := H
  obtain ⟨a28, ha29, hat27⟩ := Row.at (R0.ext hB) h0_30 h1_31
  refine ⟨h0_30, h1_31, a28, ha29, _, (hat27 0 _ rfl), _, (hat27 1 _ rfl), _, (hat27 2 _ rfl), _, (hat27 3 _ rfl), ?_⟩
  obtain ⟨r32, hr33, H⟩ := callO H
  refine (spec_InsOk.con hr33 ).mono ?_
  rintro _ w35 ⟨rfl, e36⟩
  have hB := ethen hB e36
  refine ⟨r32, rfl, ?_⟩
  refine brc H (fun h H => ?_) fun h H => ?_
  ·cases hr.trans H.symm
   exact ⟨rfl, hB⟩
  obtain ⟨m37, hm38, hJ39⟩ := H
  exact ⟨m37, hm38, _, rfl, hJ39, hB⟩
 cases hr.trans H.symm
 exact ⟨rfl, hB⟩
def impl_formOf.vc (x0 : Int) (w : World) (K : VK) : Prop :=
  Cl 78 #[(iv x0), (iv 0), (iv 16)] w fun v21 w22 => (∃ (b23 : Bool), v21 = (.bool b23) ∧ bcase (!b23) (K (.string (⟨#[]⟩)) w22) (Run Tryz.prog (Instr.buildSlice 187 17 #[(0, (.string (⟨#[45, 45, 45]⟩))), (1, (.string (⟨#[82, 87, 45]⟩))), (2, (.string (⟨#[82, 82, 45]⟩))), (3, (.string (⟨#[82, 82, 82]⟩))), (4, (.string (⟨#[82, 82, 82]⟩))), (5, (.string (⟨#[82, 82, 82]⟩))), (6, (.string (⟨#[82, 82, 82]⟩))), (7, (.string (⟨#[82, 82, 82]⟩))), (8, (.string (⟨#[82, 45, 45]⟩))), (9, (.string (⟨#[82, 82, 82]⟩))), (10, (.string (⟨#[82, 84, 45]⟩))), (11, (.string (⟨#[45, 84, 45]⟩))), (12, (.string (⟨#[45, 45, 45]⟩))), (13, (.string (⟨#[82, 82, 45]⟩))), (14, (.string (⟨#[82, 82, 45]⟩))), (15, (.string (⟨#[82, 82, 45]⟩))), (16, (.string (⟨#[45, 45, 45]⟩)))]) w22 fun v24 w25 => ∃ (A26 : OA) (n27 c28 : Nat), v24 = .slice A26 n27 c28 ∧ (idx x0 n27 A26 fun a29 => ∃ (s30 : ByteArray), w25.cell? ((a29.add ((x0.toNat) * 1)).add 0) = some (.string s30) ∧ K (.string s30) w25)))

def impl_formOf.ann : Ann := (.seq .l (.seq (.seq .l (.two (.seq .l .l) .l)) (.seq .l .l)))

theorem impl_formOf.con {x0 : Int} {r : ByteArray} {w : World} (hr : r = M.impl_formOf x0)  :
    Cl 175 #[(iv x0)] w (fun v_ w_ => v_ = (.string r) ∧ Ext w w_) := by
 have H := wp.impl_formOf.math x0
 refine begK mixed Tryz.f175 ann (vc x0) ?_
 unfold vc
 unfold wp.impl_formOf at H
 obtain ⟨r21, hr22, H⟩ := callO H
 refine (impl_within.con hr22 ).mono ?_
 rintro _ w24 ⟨rfl, e25⟩
 have hB := ethen (Ext.refl w) e25
 refine ⟨r21, rfl, ?_⟩
 refine brc H (fun h H => ?_) fun h H => ?_
 ·cases hr.trans H.symm
  exact ⟨rfl, hB⟩
 refine buildOwn el9 ([⟨#[45, 45, 45]⟩, ⟨#[82, 87, 45]⟩, ⟨#[82, 82, 45]⟩, ⟨#[82, 82, 82]⟩, ⟨#[82, 82, 82]⟩, ⟨#[82, 82, 82]⟩, ⟨#[82, 82, 82]⟩, ⟨#[82, 82, 82]⟩, ⟨#[82, 45, 45]⟩, ⟨#[82, 82, 82]⟩, ⟨#[82, 84, 45]⟩, ⟨#[45, 84, 45]⟩, ⟨#[45, 45, 45]⟩, ⟨#[82, 82, 45]⟩, ⟨#[82, 82, 45]⟩, ⟨#[82, 82, 45]⟩, ⟨#[45, 45, 45]⟩] : List ByteArray) (fun _ => by kernel_rfl) rfl (fun A26 w27 P1 e28 => ?_)
 have O1 := P1.mono hB.size
 have hB := ethen hB e28
 obtain ⟨⟨h0_32, h1_33⟩, H⟩ := H
 obtain ⟨a30, ha31, hat29⟩ := Row.at O1.row h0_32 h1_33
 refine ⟨h0_32, (by first | exact h1_33 | omega | (simp at h1_33 ⊢; omega)), a30, ha31, _, (hat29 0 _ rfl), ?_⟩
 cases hr.trans H.symm
 exact ⟨rfl, hB⟩
def impl_isReg.vc (x0 : Int) (w : World) (K : VK) : Prop :=
  Cl 78 #[(iv x0), (iv 0), (iv 3)] w fun v21 w22 => (∃ (b23 : Bool), v21 = (.bool b23) ∧ K (.bool b23) w22)

def impl_isReg.ann : Ann := (.seq .l (.seq .l .l))

theorem impl_isReg.con {x0 : Int} {r : Bool} {w : World} (hr : r = M.impl_isReg x0)  :
    Cl 208 #[(iv x0)] w (fun v_ w_ => v_ = (.bool r) ∧ Ext w w_) := by
 have H := wp.impl_isReg.math x0
 refine begK mixed Tryz.f208 ann (vc x0) ?_
 unfold vc
 unfold wp.impl_isReg at H
 obtain ⟨r21, hr22, H⟩ := callO H
 refine (impl_within.con hr22 ).mono ?_
 rintro _ w24 ⟨rfl, e25⟩
 have hB := ethen (Ext.refl w) e25
 refine ⟨r21, rfl, ?_⟩
 cases hr.trans H.symm
 exact ⟨rfl, hB⟩
def impl_isField.vc (x0 x1 x2 : Int) (w : World) (K : VK) : Prop :=
  bcase (x0 == 82) (Cl 208 #[(iv x1)] w fun v21 w22 => (∃ (b23 : Bool), v21 = (.bool b23) ∧ K (.bool b23) w22)) (bcase (x0 == 87) (Cl 178 #[(iv x1)] w fun v24 w25 => (∃ (b26 : Bool), v24 = (.bool b26) ∧ K (.bool b26) w25)) (bcase (x0 == 84) (Cl 78 #[(iv x1), (iv 0), (iv x2)] w fun v27 w28 => (∃ (b29 : Bool), v27 = (.bool b29) ∧ K (.bool b29) w28)) (K (.bool (x1 == 0)) w)))

def impl_isField.ann : Ann := (.seq .l (.seq (.seq .l (.one (.seq .l (.two (.seq .l .l) (.seq .l (.two (.seq .l .l) (.seq .l (.two (.seq .l .l) .l)))))))) (.seq .l .l)))

theorem impl_isField.con {x0 x1 x2 : Int} {r : Bool} {w : World} (hp : M.impl_isField_pre x0 x1 x2) (hr : r = M.impl_isField x0 x1 x2)  :
    Cl 176 #[(.int .u8 x0), (iv x1), (iv x2)] w (fun v_ w_ => v_ = (.bool r) ∧ Ext w w_) := by
 have H := wp.impl_isField.math x0 x1 x2 hp
 have hB := Ext.refl w
 refine begK mixed Tryz.f176 ann (vc x0 x1 x2) ?_
 unfold vc
 unfold wp.impl_isField at H
 refine brc H (fun h H => ?_) fun h H => ?_
 ·obtain ⟨r21, hr22, H⟩ := callO H
  refine (impl_isReg.con hr22 ).mono ?_
  rintro _ w24 ⟨rfl, e25⟩
  have hB := ethen hB e25
  refine ⟨r21, rfl, ?_⟩
  cases hr.trans H.symm
  exact ⟨rfl, hB⟩
 refine brc H (fun h H => ?_) fun h H => ?_
 ·obtain ⟨r26, hr27, H⟩ := callO H
  refine (impl_IsWord.con hr27 ).mono ?_
  rintro _ w29 ⟨rfl, e30⟩
  have hB := ethen hB e30
  refine ⟨r26, rfl, ?_⟩
  cases hr.trans H.symm
  exact ⟨rfl, hB⟩
 refine brc H (fun h H => ?_) fun h H => ?_
 ·obtain ⟨r31, hr32, H⟩ := callO H
  refine (impl_within.con hr32 ).mono ?_
  rintro _ w34 ⟨rfl, e35⟩
  have hB := ethen hB e35
  refine ⟨r31, rfl, ?_⟩
  cases hr.trans H.symm
  exact ⟨rfl, hB⟩
 cases hr.trans H.symm
 exact ⟨rfl, hB⟩
def impl_InsOk.vc (x0_0 x0_1 x0_2 x0_3 x1 : Int) (w : World) (K : VK) : Prop :=
  newK w (.cells #[(iv x0_0), (iv x0_1), (iv x0_2), (iv x0_3)] 84) fun g21 w22 => ldI w22 (((bx g21).add 0).add 0) fun n23 => Cl 175 #[(iv n23)] w22 fun v24 w25 => (∃ (s26 : ByteArray), v24 = (.string s26) ∧ bcase (!(ByteArray.toList s26 == ByteArray.toList (⟨#[]⟩))) (((Cl 78 #[(iv x1), (iv 0), (iv 32)] w25.drew fun v27 w28 => (∃ (b29 : Bool), v27 = (.bool b29) ∧ bcase b29 (((0 : Int) ≤ 0 ∧ ∃ y30 : UInt8, (s26 : ByteArray)[((0 : Int).toNat)]? = some y30 ∧ ((ldI w28 (((bx g21).add 1).add 0) fun n31 => ((Cl 176 #[(.int .u8 ((y30.toNat : Nat) : Int)), (iv n31), (iv x1)] w28 fun v32 w33 => (∃ (b34 : Bool), v32 = (.bool b34) ∧ bcase b34 (((0 : Int) ≤ 1 ∧ ∃ y35 : UInt8, (s26 : ByteArray)[((1 : Int).toNat)]? = some y35 ∧ ((ldI w33 (((bx g21).add 2).add 0) fun n36 => ((Cl 176 #[(.int .u8 ((y35.toNat : Nat) : Int)), (iv n36), (iv x1)] w33 fun v37 w38 => (∃ (b39 : Bool), v37 = (.bool b39) ∧ bcase b39 (((0 : Int) ≤ 2 ∧ ∃ y40 : UInt8, (s26 : ByteArray)[((2 : Int).toNat)]? = some y40 ∧ ((ldI w38 (((bx g21).add 3).add 0) fun n41 => ((Cl 176 #[(.int .u8 ((y40.toNat : Nat) : Int)), (iv n41), (iv x1)] w38 fun v42 w43 => (∃ (b44 : Bool), v42 = (.bool b44) ∧ K (.bool b44) w43)) ∧ True)) ∧ True))) (((((K (.bool false) w38) ∧ True)) ∧ True)))) ∧ True)) ∧ True))) (((((((((K (.bool false) w33) ∧ True)) ∧ True)) ∧ True)) ∧ True)))) ∧ True)) ∧ True))) (((((((((((((K (.bool false) w28) ∧ True)) ∧ True)) ∧ True)) ∧ True)) ∧ True)) ∧ True)))) ∧ True)) (((((((((((((((K (.bool false) w25.drew) ∧ True)) ∧ True)) ∧ True)) ∧ True)) ∧ True)) ∧ True)) ∧ True)))

def impl_InsOk.ann : Ann := (.seq .l (.seq .l (.seq .each .l)))

theorem impl_InsOk.con {s0 : D.Ins} {x1 : Int} {r : Bool} {w : World} (hr : r = M.impl_InsOk s0 x1)  :
    Cl 135 #[(.agg (iC s0)), (iv x1)] w (fun v_ w_ => v_ = (.bool r) ∧ Ext w w_) := by
 have H := wp.impl_InsOk.math s0 x1
 refine begK mixed Tryz.f135 ann (vc s0.Op s0.A s0.B s0.C x1) ?_
 unfold vc
 unfold wp.impl_InsOk at H
 refine newBlk (fun g1_ w21 L1 O1 e22 => ?_)
 refine ⟨_, (O1.a 0), ?_⟩
 obtain ⟨r23, hr24, H⟩ := callO H
 refine (impl_formOf.con hr24 ).mono ?_
 rintro _ w26 ⟨rfl, e27⟩
 refine ⟨r23, rfl, ?_⟩
 have O1 := (O1.ext e27).ext (Ext.drew _)
 have hB := ethen (ethen (ethen (Ext.refl w) e22) e27) (Ext.drew _)
 refine brc H (fun h H => ?_) fun h H => ?_
 ·refine and_t ?_
  obtain ⟨r28, hr29, H⟩ := callO H
  refine (impl_within.con hr29 ).mono ?_
  rintro _ w31 ⟨rfl, e32⟩
  have O1 := O1.ext e32
  have hB := ethen hB e32
  refine ⟨r28, rfl, ?_⟩
  refine brc H (fun h H => ?_) fun h H => ?_
  ·obtain ⟨⟨h0_36, h1_37⟩, H⟩ := H
   obtain ⟨y33, hy34, hyb35⟩ := strAt h0_36 h1_37
   refine ⟨h0_36, y33, hy34, ?_⟩
   rw [hyb35]
   refine and_t ?_
   refine ⟨_, (O1.a 1), ?_⟩
   refine and_t ?_
   obtain ⟨hp40, H⟩ := H
   obtain ⟨r38, hr39, H⟩ := callO H
   refine (impl_isField.con hp40 hr39 ).mono ?_
   rintro _ w41 ⟨rfl, e42⟩
   have O1 := O1.ext e42
   have hB := ethen hB e42
   refine ⟨r38, rfl, ?_⟩
   refine brc H (fun h H => ?_) fun h H => ?_
   ·obtain ⟨⟨h0_46, h1_47⟩, H⟩ := H
    obtain ⟨y43, hy44, hyb45⟩ := strAt h0_46 h1_47
    refine ⟨h0_46, y43, hy44, ?_⟩
    rw [hyb45]
    refine and_t ?_
    refine ⟨_, (O1.a 2), ?_⟩
    refine and_t ?_
    obtain ⟨hp50, H⟩ := H
    obtain ⟨r48, hr49, H⟩ := callO H
    refine (impl_isField.con hp50 hr49 ).mono ?_
    rintro _ w51 ⟨rfl, e52⟩
    have O1 := O1.ext e52
    have hB := ethen hB e52
    refine ⟨r48, rfl, ?_⟩
    refine brc H (fun h H => ?_) fun h H => ?_
    ·obtain ⟨⟨h0_56, h1_57⟩, H⟩ := H
     obtain ⟨y53, hy54, hyb55⟩ := strAt h0_56 h1_57
     refine ⟨h0_56, y53, hy54, ?_⟩
     rw [hyb55]
     refine and_t ?_
     refine ⟨_, (O1.a 3), ?_⟩
     refine and_t ?_
     obtain ⟨hp60, H⟩ := H
     obtain ⟨r58, hr59, H⟩ := callO H
     refine (impl_isField.con hp60 hr59 ).mono ?_
     rintro _ w61 ⟨rfl, e62⟩
     have hB := ethen hB e62
     refine ⟨r58, rfl, ?_⟩
     cases hr.trans H.symm
     exact ⟨rfl, hB⟩
    refine and_t ?_
    refine and_t ?_
    cases hr.trans H.symm
    exact ⟨rfl, hB⟩
   refine and_t ?_
   refine and_t ?_
   refine and_t ?_
   refine and_t ?_
   cases hr.trans H.symm
   exact ⟨rfl, hB⟩
  refine and_t ?_
  refine and_t ?_
  refine and_t ?_
  refine and_t ?_
  refine and_t ?_
  refine and_t ?_
  cases hr.trans H.symm
  exact ⟨rfl, hB⟩
 refine and_t ?_
 refine and_t ?_
 refine and_t ?_
 refine and_t ?_
 refine and_t ?_
 refine and_t ?_
 refine and_t ?_
 cases hr.trans H.symm
 exact ⟨rfl, hB⟩
def impl_ProgramOk_1.vc (x0_0 x0_1 x0_2 x0_3 : Int) (p1 : Addr) (w : World) (K : VK) : Prop :=
  newK w (.cells #[(iv x0_0), (iv x0_1), (iv x0_2), (iv x0_3)] 84) fun g21 w22 => ldI w22 ((bx g21).add 0) fun n23 => ldI w22 ((bx g21).add 1) fun n24 => ldI w22 ((bx g21).add 2) fun n25 => ldI w22 ((bx g21).add 3) fun n26 => ldS w22 (p1.add 0) fun A27 n28 c29 => Cl 135 #[(.agg #[(iv n23), (iv n24), (iv n25), (iv n26)]), (iv ((n28 : Nat) : Int))] w22 fun v30 w31 => (∃ (b32 : Bool), v30 = (.bool b32) ∧ K (.bool (!b32)) w31)

def impl_ProgramOk_1.ann : Ann := (.seq .l (.seq .l .l))

theorem impl_ProgramOk_1.con {s0 : D.Ins} {xs1 : List D.Ins} {g1_ c1_0 : Nat} {A1_0 : OA} {r : Bool} {w : World} (hr : r = M.impl_ProgramOk_1 s0 xs1) (O1 : Blk w g1_ 30 #[(sv A1_0 xs1.length c1_0)]) (R1_0 : Row el84 w A1_0 xs1) (hc1_0 : xs1.length ≤ c1_0) :
    Cl 134 #[(.agg (iC s0)), (.pointer (some (bx g1_)))] w (fun v_ w_ => v_ = (.bool r) ∧ Ext w w_) := by
 have H := wp.impl_ProgramOk_1.math s0 xs1
 refine begK mixed Tryz.f134 ann (vc s0.Op s0.A s0.B s0.C (bx g1_)) ?_
 unfold vc
 unfold wp.impl_ProgramOk_1 at H
 refine newBlk (fun g3_ w21 L3 O3 e22 => ?_)
 have O1 := O1.ext e22
 refine ⟨_, (O3.a 0), _, (O3.a 1), _, (O3.a 2), _, (O3.a 3), _, _, _, (O1.a 0), ?_⟩
 obtain ⟨r23, hr24, H⟩ := callO H
 refine (impl_InsOk.con hr24 ).mono ?_
 rintro _ w26 ⟨rfl, e27⟩
 have hB := ethen (ethen (Ext.refl w) e22) e27
 refine ⟨r23, rfl, ?_⟩
 cases hr.trans H.symm
 exact ⟨rfl, hB⟩
def slices_IndexFunc_impl_Ins_impl_Ins.vc (A0 : OA) (n0 c0 f1 : Nat) (cap1 : Array Value) (w : World) (K : VK) : Prop :=
  LoopT (σ := Int × Unit) (fun z21 w22 next23 => bcase (decide (z21.1 < ((n0 : Nat) : Int))) ((idx z21.1 n0 A0 fun a24 => ldI w22 ((a24.add ((z21.1.toNat) * 4)).add 0) fun n25 => ldI w22 ((a24.add ((z21.1.toNat) * 4)).add 1) fun n26 => ldI w22 ((a24.add ((z21.1.toNat) * 4)).add 2) fun n27 => ldI w22 ((a24.add ((z21.1.toNat) * 4)).add 3) fun n28 => Cl f1 (#[(.agg #[(iv n25), (iv n26), (iv n27), (iv n28)])] ++ cap1) w22 fun v29 w30 => (∃ (b31 : Bool), v29 = (.bool b31) ∧ bcase b31 (K (iv z21.1) w30) (next23 ((wrap .i64 (z21.1 + 1)), ()) w30)))) (K (iv (-1)) w22)) (0, ()) w

def slices_IndexFunc_impl_Ins_impl_Ins.ann : Ann := (.seq .l (.seq (.seq .l (.one (.loop [(8, .int .i64)] (.seq .l (.seq (.two .l .l) (.seq (.one (.seq .l (.seq .l (.two (.seq .l .l) .l)))) .l)))))) (.seq .l .l)))

theorem slices_IndexFunc_impl_Ins_impl_Ins.start {A0 : OA} {n0 c0 f1 : Nat} {cap1 : Array Value} {w : World} {K : Value → World → Prop} (h : slices_IndexFunc_impl_Ins_impl_Ins.vc A0 n0 c0 f1 cap1 w K) : Cl 174 #[(sv A0 n0 c0), (.func (.func f1) #[] cap1)] w K :=
  vcF_sound mixed (fn := Tryz.f174) (by kernel_rfl) (by kernel_rfl) (an := slices_IndexFunc_impl_Ins_impl_Ins.ann) (args := [(sv A0 n0 c0), (.func (.func f1) #[] cap1)]) (Eq.mpr (by kernel_rfl) h)

theorem slices_IndexFunc_impl_Ins_impl_Ins.con {xs0 : List D.Ins} {A0 : OA} {c0 f1 : Nat} {cap1 : Array Value} {g1 : D.Ins → Bool} {D1 : D.Ins → Prop} {r : Int} {w : World} (hp : M.slices_IndexFunc_impl_Ins_impl_Ins_pre xs0 g1 D1) (hr : r = M.slices_IndexFunc_impl_Ins_impl_Ins xs0 g1) (R0 : Row el84 w A0 xs0) (hc0 : xs0.length ≤ c0) (F1 : ∀ (z0_ : D.Ins), D1 z0_ → ∀ w_ : World, Ext w w_ → Cl f1 (#[(.agg (iC z0_))] ++ cap1) w_ (fun v_ w1_ => v_ = (.bool (g1 z0_)) ∧ Ext w_ w1_)) :
    Cl 174 #[(sv A0 xs0.length c0), (.func (.func f1) #[] cap1)] w (fun v_ w_ => v_ = (iv r) ∧ Ext w w_) := by
 have H := wp.slices_IndexFunc_impl_Ins_impl_Ins.math xs0 g1 D1 hp
 have hB := Ext.refl w
 refine slices_IndexFunc_impl_Ins_impl_Ins.start ?_
 unfold vc
 unfold wp.slices_IndexFunc_impl_Ins_impl_Ins at H
 obtain ⟨J23, ⟨m44, hJ43⟩, hS24⟩ := H
 refine ⟨fun m_ z_ w_ => ∃ (i21 : Int), z_ = (i21, ()) ∧ J23 m_ (i21, ()) ∧ Ext w w_, ⟨m44, 0, rfl, hJ43, hB⟩, ?_⟩
 rintro m22 _ w26 ⟨i21, rfl, hJ45, hB⟩
 have H := hS24 m22 _ hJ45
 clear hS24 hJ45
 try dsimp only at H ⊢
 refine brc H (fun h H => ?_) fun h H => ?_
 ·obtain ⟨⟨h0_30, h1_31⟩, H⟩ := H
  obtain ⟨a28, ha29, hat27⟩ := Row.at (R0.ext hB) h0_30 h1_31
  refine ⟨h0_30, h1_31, a28, ha29, _, (hat27 0 _ rfl), _, (hat27 1 _ rfl), _, (hat27 2 _ rfl), _, (hat27 3 _ rfl), ?_⟩
  obtain ⟨hd34, H⟩ := H
  obtain ⟨r32, hr33, H⟩ := callO H
  refine (F1 (rd xs0 i21) hd34 _ hB).mono ?_
  rintro _ w35 ⟨rfl, e36⟩
  rw [← hr33]
  have hB := ethen hB e36
  refine ⟨r32, rfl, ?_⟩
  refine brc H (fun h H => ?_) fun h H => ?_
  ·cases hr.trans H.symm
   exact ⟨rfl, hB⟩
  obtain ⟨m37, hm38, hJ39⟩ := H
  exact ⟨m37, hm38, _, rfl, hJ39, hB⟩
 cases hr.trans H.symm
 exact ⟨rfl, hB⟩
def slices_ContainsFunc_impl_Ins_impl_Ins.vc (A0 : OA) (n0 c0 f1 : Nat) (cap1 : Array Value) (w : World) (K : VK) : Prop :=
  Cl 174 #[(sv A0 n0 c0), (.func (.func f1) #[] cap1)] w fun v21 w22 => (∃ (n23 : Int), v21 = (iv n23) ∧ K (.bool (decide (n23 ≥ 0))) w22)

def slices_ContainsFunc_impl_Ins_impl_Ins.ann : Ann := (.seq .l (.seq .l .l))

theorem slices_ContainsFunc_impl_Ins_impl_Ins.start {A0 : OA} {n0 c0 f1 : Nat} {cap1 : Array Value} {w : World} {K : Value → World → Prop} (h : slices_ContainsFunc_impl_Ins_impl_Ins.vc A0 n0 c0 f1 cap1 w K) : Cl 133 #[(sv A0 n0 c0), (.func (.func f1) #[] cap1)] w K :=
  vcF_sound mixed (fn := Tryz.f133) (by kernel_rfl) (by kernel_rfl) (an := slices_ContainsFunc_impl_Ins_impl_Ins.ann) (args := [(sv A0 n0 c0), (.func (.func f1) #[] cap1)]) (Eq.mpr (by kernel_rfl) h)

theorem slices_ContainsFunc_impl_Ins_impl_Ins.con {xs0 : List D.Ins} {A0 : OA} {c0 f1 : Nat} {cap1 : Array Value} {g1 : D.Ins → Bool} {D1 : D.Ins → Prop} {r : Bool} {w : World} (hp : M.slices_ContainsFunc_impl_Ins_impl_Ins_pre xs0 g1 D1) (hr : r = M.slices_ContainsFunc_impl_Ins_impl_Ins xs0 g1) (R0 : Row el84 w A0 xs0) (hc0 : xs0.length ≤ c0) (F1 : ∀ (z0_ : D.Ins), D1 z0_ → ∀ w_ : World, Ext w w_ → Cl f1 (#[(.agg (iC z0_))] ++ cap1) w_ (fun v_ w1_ => v_ = (.bool (g1 z0_)) ∧ Ext w_ w1_)) :
    Cl 133 #[(sv A0 xs0.length c0), (.func (.func f1) #[] cap1)] w (fun v_ w_ => v_ = (.bool r) ∧ Ext w w_) := by
 have H := wp.slices_ContainsFunc_impl_Ins_impl_Ins.math xs0 g1 D1 hp
 have hB := Ext.refl w
 refine slices_ContainsFunc_impl_Ins_impl_Ins.start ?_
 unfold vc
 unfold wp.slices_ContainsFunc_impl_Ins_impl_Ins at H
 obtain ⟨hp23, H⟩ := H
 obtain ⟨r21, hr22, H⟩ := callO H
 refine (slices_IndexFunc_impl_Ins_impl_Ins.con hp23 hr22 (R0.ext hB) hc0 (fun z0_  h_ w_ e_ => F1 z0_  h_ w_ (ethen hB e_))).mono ?_
 rintro _ w24 ⟨rfl, e25⟩
 have hB := ethen hB e25
 refine ⟨r21, rfl, ?_⟩
 cases hr.trans H.symm
 exact ⟨rfl, hB⟩
def impl_ProgramOk.vc (A0 : OA) (n0 c0 : Nat) (w : World) (K : VK) : Prop :=
  newK w (.cells #[(sv A0 n0 c0)] 30) fun g21 w22 => ldS w22 ((bx g21).add 0) fun A23 n24 c25 => bcase (decide (((n24 : Nat) : Int) ≤ 32)) (ldS w22 ((bx g21).add 0) fun A26 n27 c28 => Cl 133 #[(sv A26 n27 c28), (.func (.func 134) #[] #[(.pointer (some (bx g21)))])] w22 fun v29 w30 => (∃ (b31 : Bool), v29 = (.bool b31) ∧ K (.bool (!b31)) w30)) (K (.bool false) w22)

def impl_ProgramOk.ann : Ann := (.seq .l (.seq .l .l))

theorem impl_ProgramOk.con {xs0 : List D.Ins} {A0 : OA} {c0 : Nat} {r : Bool} {w : World} (hp : M.impl_ProgramOk_pre xs0) (hr : r = M.impl_ProgramOk xs0) (R0 : Row el84 w A0 xs0) (hc0 : xs0.length ≤ c0) :
    Cl 75 #[(sv A0 xs0.length c0)] w (fun v_ w_ => v_ = (.bool r) ∧ Ext w w_) := by
 have H := wp.impl_ProgramOk.math xs0 hp
 refine begK mixed Tryz.f75 ann (vc A0 xs0.length c0) ?_
 unfold vc
 unfold wp.impl_ProgramOk at H
 refine newBlk (fun g2_ w21 L2 O2 e22 => ?_)
 have hB := ethen (Ext.refl w) e22
 refine ⟨_, _, _, (O2.a 0), ?_⟩
 refine brc H (fun h H => ?_) fun h H => ?_
 ·refine ⟨_, _, _, (O2.a 0), ?_⟩
  obtain ⟨hp25, H⟩ := H
  obtain ⟨r23, hr24, H⟩ := callO H
  refine (slices_ContainsFunc_impl_Ins_impl_Ins.con hp25 hr24 (R0.ext hB) hc0 (fun z0_ h_ w_ e_ => cllApp (l1 := [_]) (l2 := [_]) (impl_ProgramOk_1.con rfl (O2.ext e_) (R0.ext (ethen hB e_)) hc0))).mono ?_
  rintro _ w26 ⟨rfl, e27⟩
  have hB := ethen hB e27
  refine ⟨r23, rfl, ?_⟩
  cases hr.trans H.symm
  exact ⟨rfl, hB⟩
 cases hr.trans H.symm
 exact ⟨rfl, hB⟩
def impl_IsLocal.vc (x0_0 x0_1 x0_2 x0_3 : Int) (w : World) (K : VK) : Prop :=
  newK w (.cells #[(iv x0_0), (iv x0_1), (iv x0_2), (iv x0_3)] 84) fun g21 w22 => ldI w22 (((bx g21).add 0).add 0) fun n23 => Cl 78 #[(iv n23), (iv 0), (iv 12)] w22 fun v24 w25 => (∃ (b26 : Bool), v24 = (.bool b26) ∧ K (.bool b26) w25)

def impl_IsLocal.ann : Ann := (.seq .l (.seq .l .l))

theorem impl_IsLocal.con {s0 : D.Ins} {r : Bool} {w : World} (hr : r = M.impl_IsLocal s0)  :
    Cl 121 #[(.agg (iC s0))] w (fun v_ w_ => v_ = (.bool r) ∧ Ext w w_) := by
 have H := wp.impl_IsLocal.math s0
 refine begK mixed Tryz.f121 ann (vc s0.Op s0.A s0.B s0.C) ?_
 unfold vc
 unfold wp.impl_IsLocal at H
 refine newBlk (fun g1_ w21 L1 O1 e22 => ?_)
 refine ⟨_, (O1.a 0), ?_⟩
 obtain ⟨r23, hr24, H⟩ := callO H
 refine (impl_within.con hr24 ).mono ?_
 rintro _ w26 ⟨rfl, e27⟩
 have hB := ethen (ethen (Ext.refl w) e22) e27
 refine ⟨r23, rfl, ?_⟩
 cases hr.trans H.symm
 exact ⟨rfl, hB⟩
def laws_szIntS.vc (A0 : OA) (n0 c0 : Nat) (x1 : Int) (w : World) (K : VK) : Prop :=
  bcase (decide ((wrap .i64 (x1 - ((n0 : Nat) : Int))) < 0)) (K (iv (-1)) w) (K (iv (wrap .i64 (x1 - ((n0 : Nat) : Int)))) w)

def laws_szIntS.ann : Ann := (.seq .l (.seq .l (.seq (.seq .l (.two (.seq .l .l) .l)) (.seq .l .l))))

theorem laws_szIntS.con {xs0 : List Int} {A0 : OA} {c0 : Nat} {x1 r : Int} {w : World} (hp : M.laws_szIntS_pre xs0 x1) (hr : r = M.laws_szIntS xs0 x1) (R0 : Row el3 w A0 xs0) (hc0 : xs0.length ≤ c0) :
    Cl 45 #[(sv A0 xs0.length c0), (iv x1)] w (fun v_ w_ => v_ = (iv r) ∧ Ext w w_) := by
 have H := wp.laws_szIntS.math xs0 x1 hp
 have hB := Ext.refl w
 refine begK mixed Tryz.f45 ann (vc A0 xs0.length c0 x1) ?_
 unfold vc
 unfold wp.laws_szIntS at H
 refine brc H (fun h H => ?_) fun h H => ?_
 ·cases hr.trans H.symm
  exact ⟨rfl, hB⟩
 cases hr.trans H.symm
 exact ⟨rfl, hB⟩
def laws_markInsS.vc (A0 : OA) (n0 c0 : Nat) (x1 : Int) (w : World) (K : VK) : Prop :=
  LoopT (σ := Int × Int × Unit) (fun z21 w22 next23 => bcase (decide (z21.2.1 < ((n0 : Nat) : Int))) ((idx z21.2.1 n0 A0 fun a24 => stCells ((a24.add ((z21.2.1.toNat) * 4)).add 0) [(iv z21.1)] 0 w22 fun w25 => (idx z21.2.1 n0 A0 fun a26 => stCells ((a26.add ((z21.2.1.toNat) * 4)).add 1) [(iv (wrap .i64 (z21.1 + 1)))] 0 w25 fun w27 => (idx z21.2.1 n0 A0 fun a28 => stCells ((a28.add ((z21.2.1.toNat) * 4)).add 2) [(iv (wrap .i64 ((wrap .i64 (z21.1 + 1)) + 1)))] 0 w27 fun w29 => (idx z21.2.1 n0 A0 fun a30 => stCells ((a30.add ((z21.2.1.toNat) * 4)).add 3) [(iv (wrap .i64 ((wrap .i64 ((wrap .i64 (z21.1 + 1)) + 1)) + 1)))] 0 w29 fun w31 => next23 ((wrap .i64 ((wrap .i64 ((wrap .i64 ((wrap .i64 (z21.1 + 1)) + 1)) + 1)) + 1)), (wrap .i64 (z21.2.1 + 1)), ()) w31))))) (K (iv z21.1) w22)) (x1, 0, ()) w

def laws_markInsS.ann : Ann := (.seq .l (.seq (.seq .l (.one (.loop [(1, .int .i64), (5, .int .i64)] (.seq (.seq .l (.two .l .l)) (.seq (.one (.seq .l (.seq .l (.seq .l (.seq .l (.seq .l (.seq .l (.seq .l .l)))))))) .l))))) (.seq .l .l)))

theorem laws_markInsS.con {xs0 : List D.Ins} {A0 : OA} {c0 : Nat} {x1 : Int} {r : Int × (List D.Ins)} {w : World} (hp : M.laws_markInsS_pre xs0 x1) (hr : r = M.laws_markInsS xs0 x1) (O1 : Own el84 w 0 A0 c0 xs0) :
    Cl 55 #[(sv A0 xs0.length c0), (iv x1)] w (fun v_ w_ => v_ = (iv r.1) ∧ Own el84 w_ 0 A0 c0 r.2 ∧ r.2.length = xs0.length ∧ Chg (InB A0) w w_) := by
 have H := wp.laws_markInsS.math xs0 x1 hp
 have hB := Chg.refl (InB A0) w
 refine begK mixed Tryz.f55 ann (vc A0 xs0.length c0 x1) ?_
 unfold vc
 unfold wp.laws_markInsS at H
 obtain ⟨J68, ⟨m113, hJ112⟩, hS69⟩ := H
 refine ⟨fun m_ z_ w_ => ∃ (i63 i64 : Int) (xs65 : List D.Ins), z_ = (i63, i64, ()) ∧ J68 m_ (i63, i64, xs65, ()) ∧ Chg (InB A0) w w_ ∧ Own el84 w_ 0 A0 c0 xs65 ∧ xs0.length = xs65.length, ⟨m113, x1, 0, xs0, rfl, hJ112, hB, O1, (by first | rfl | assumption | omega | (simp; done) | (simp; omega) | (simp; assumption))⟩, ?_⟩
 rintro m67 _ w71 ⟨i63, i64, xs65, rfl, hJ114, hB, O1, hn66⟩
 have H := hS69 m67 _ hJ114
 clear hS69 hJ114
 try dsimp only at H ⊢
 refine brc H (fun h H => ?_) fun h H => ?_
 ·obtain ⟨⟨h0_75, h1_76⟩, H⟩ := H
  obtain ⟨a73, ha74, hat72⟩ := Row.at O1.row h0_75 h1_76
  refine ⟨h0_75, (by first | exact h1_76 | omega | (simp at h1_76 ⊢; omega)), a73, ha74, ?_⟩
  refine Own.stA O1 ha74 h0_75 h1_76 0 (⟨i63, (rd xs65 i64).A, (rd xs65 i64).B, (rd xs65 i64).C⟩ : D.Ins) (fun w77 P1 e78 hb79 => ?_)
  have O1 := P1
  obtain ⟨⟨h0_83, h1_84⟩, H⟩ := H
  obtain ⟨a81, ha82, hat80⟩ := Row.at O1.row h0_83 h1_84
  refine ⟨h0_83, (by first | exact h1_84 | omega | (simp at h1_84 ⊢; omega)), a81, ha82, ?_⟩
  have hrd88 := rd_set h0_83 h1_84
  refine Own.storeAt O1 ha82 h0_83 h1_84 1 [(iv (wrap .i64 (i63 + 1)))] (⟨i63, (wrap .i64 (i63 + 1)), (rd xs65 i64).B, (rd xs65 i64).C⟩ : D.Ins) (by rw [hrd88]; rfl) (Nat.le_of_ble_eq_true rfl) rfl (fun w85 P1 e86 hb87 => ?_)
  rw [List.set_set] at P1
  have O1 := P1
  obtain ⟨⟨h0_92, h1_93⟩, H⟩ := H
  obtain ⟨a90, ha91, hat89⟩ := Row.at O1.row h0_92 h1_93
  refine ⟨h0_92, (by first | exact h1_93 | omega | (simp at h1_93 ⊢; omega)), a90, ha91, ?_⟩
  have hrd97 := rd_set h0_92 h1_93
  refine Own.storeAt O1 ha91 h0_92 h1_93 2 [(iv (wrap .i64 ((wrap .i64 (i63 + 1)) + 1)))] (⟨i63, (wrap .i64 (i63 + 1)), (wrap .i64 ((wrap .i64 (i63 + 1)) + 1)), (rd xs65 i64).C⟩ : D.Ins) (by rw [hrd97]; rfl) (Nat.le_of_ble_eq_true rfl) rfl (fun w94 P1 e95 hb96 => ?_)
  rw [List.set_set] at P1
  have O1 := P1
  obtain ⟨⟨h0_101, h1_102⟩, H⟩ := H
  obtain ⟨a99, ha100, hat98⟩ := Row.at O1.row h0_101 h1_102
  refine ⟨h0_101, (by first | exact h1_102 | omega | (simp at h1_102 ⊢; omega)), a99, ha100, ?_⟩
  have hrd106 := rd_set h0_101 h1_102
  refine Own.storeAt O1 ha100 h0_101 h1_102 3 [(iv (wrap .i64 ((wrap .i64 ((wrap .i64 (i63 + 1)) + 1)) + 1)))] (⟨i63, (wrap .i64 (i63 + 1)), (wrap .i64 ((wrap .i64 (i63 + 1)) + 1)), (wrap .i64 ((wrap .i64 ((wrap .i64 (i63 + 1)) + 1)) + 1))⟩ : D.Ins) (by rw [hrd106]; rfl) (Nat.le_of_ble_eq_true rfl) rfl (fun w103 O1 e104 hb105 => ?_)
  rw [List.set_set] at O1
  have hB := (((hB.chgb e78 (Or.inr ⟨_, ha74, rfl⟩)).chgb e86 (Or.inr ⟨_, ha82, rfl⟩)).chgb e95 (Or.inr ⟨_, ha91, rfl⟩)).chgb e104 (Or.inr ⟨_, ha100, rfl⟩)
  obtain ⟨m107, hm108, hJ109⟩ := H
  exact ⟨m107, hm108, _, _, _, rfl, hJ109, hB, O1, (by first | rfl | assumption | omega | (simp; done) | (simp; omega) | (simp; assumption))⟩
 cases hr.trans H.symm
 exact ⟨rfl, O1, (by first | (simp only [bC, wC, List.length_set]; done) | (simp only [bC, wC, List.length_set, ← hn66]; done) | (simp; done) | (simp; omega) | omega), hB⟩
def impl_isWarpNumber.vc (x0 : Int) (w : World) (K : VK) : Prop :=
  Cl 78 #[(iv x0), (iv 0), (iv 2)] w fun v21 w22 => (∃ (b23 : Bool), v21 = (.bool b23) ∧ K (.bool b23) w22)

def impl_isWarpNumber.ann : Ann := (.seq .l (.seq .l .l))

theorem impl_isWarpNumber.con {x0 : Int} {r : Bool} {w : World} (hr : r = M.impl_isWarpNumber x0)  :
    Cl 137 #[(iv x0)] w (fun v_ w_ => v_ = (.bool r) ∧ Ext w w_) := by
 have H := wp.impl_isWarpNumber.math x0
 refine begK mixed Tryz.f137 ann (vc x0) ?_
 unfold vc
 unfold wp.impl_isWarpNumber at H
 obtain ⟨r21, hr22, H⟩ := callO H
 refine (impl_within.con hr22 ).mono ?_
 rintro _ w24 ⟨rfl, e25⟩
 have hB := ethen (Ext.refl w) e25
 refine ⟨r21, rfl, ?_⟩
 cases hr.trans H.symm
 exact ⟨rfl, hB⟩
def laws_szFrameS.vc (A0 : OA) (n0 c0 : Nat) (x1 : Int) (w : World) (K : VK) : Prop :=
  bcase (decide ((wrap .i64 (x1 - ((n0 : Nat) : Int))) < 0)) (K (iv (-1)) w) (K (iv (wrap .i64 (x1 - ((n0 : Nat) : Int)))) w)

def laws_szFrameS.ann : Ann := (.seq .l (.seq .l (.seq (.seq .l (.two (.seq .l .l) .l)) (.seq .l .l))))

theorem laws_szFrameS.con {xs0 : List D.Frame} {A0 : OA} {c0 : Nat} {x1 r : Int} {w : World} (hp : M.laws_szFrameS_pre xs0 x1) (hr : r = M.laws_szFrameS xs0 x1) (R0 : Row el169 w A0 xs0) (hc0 : xs0.length ≤ c0) :
    Cl 152 #[(sv A0 xs0.length c0), (iv x1)] w (fun v_ w_ => v_ = (iv r) ∧ Ext w w_) := by
 have H := wp.laws_szFrameS.math xs0 x1 hp
 have hB := Ext.refl w
 refine begK mixed Tryz.f152 ann (vc A0 xs0.length c0 x1) ?_
 unfold vc
 unfold wp.laws_szFrameS at H
 refine brc H (fun h H => ?_) fun h H => ?_
 ·cases hr.trans H.symm
  exact ⟨rfl, hB⟩
 cases hr.trans H.symm
 exact ⟨rfl, hB⟩
def laws_szWarp.vc (x0_0 : Int) (A0_1 : OA) (n0_1 c0_1 : Nat) (A0_2 : OA) (n0_2 c0_2 : Nat) (x1 : Int) (w : World) (K : VK) : Prop :=
  newK w (.cells #[(iv x0_0), (sv A0_1 n0_1 c0_1), (sv A0_2 n0_2 c0_2)] 111) fun g21 w22 => ldS w22 (((bx g21).add 1).add 0) fun A23 n24 c25 => Cl 152 #[(sv A23 n24 c25), (iv x1)] w22 fun v26 w27 => (∃ (n28 : Int), v26 = (iv n28) ∧ bcase (decide (n28 < 0)) (K (iv (-1)) w27) (ldS w27 (((bx g21).add 2).add 0) fun A29 n30 c31 => Cl 45 #[(sv A29 n30 c31), (iv n28)] w27 fun v32 w33 => (∃ (n34 : Int), v32 = (iv n34) ∧ bcase (decide (n34 < 0)) (K (iv (-1)) w33) (K (iv n34) w33))))

def laws_szWarp.ann : Ann := (.seq .l (.seq .l (.seq (.seq .l (.two (.seq .l .l) .l)) (.seq .l (.seq (.seq .l (.two (.seq .l .l) .l)) (.seq .l .l))))))

theorem laws_szWarp.con {s0 : D.Warp} {A0_1 A0_2 : OA} {c0_1 c0_2 : Nat} {x1 r : Int} {w : World} (hp : M.laws_szWarp_pre s0 x1) (hr : r = M.laws_szWarp s0 x1) (R0_1 : Row el169 w A0_1 s0.Frames) (hc0_1 : s0.Frames.length ≤ c0_1) (R0_2 : Row el3 w A0_2 s0.Regs) (hc0_2 : s0.Regs.length ≤ c0_2) :
    Cl 97 #[(.agg (wC A0_1 c0_1 A0_2 c0_2 s0)), (iv x1)] w (fun v_ w_ => v_ = (iv r) ∧ Ext w w_) := by
 have H := wp.laws_szWarp.math s0 x1 hp
 refine begK mixed Tryz.f97 ann (vc s0.Number A0_1 s0.Frames.length c0_1 A0_2 s0.Regs.length c0_2 x1) ?_
 unfold vc
 unfold wp.laws_szWarp at H
 refine newBlk (fun g3_ w21 L3 O3 e22 => ?_)
 have hB := ethen (Ext.refl w) e22
 refine ⟨_, _, _, (O3.a 1), ?_⟩
 obtain ⟨hp25, H⟩ := H
 obtain ⟨r23, hr24, H⟩ := callO H
 refine (laws_szFrameS.con hp25 hr24 (R0_1.ext hB) hc0_1).mono ?_
 rintro _ w26 ⟨rfl, e27⟩
 have O3 := O3.ext e27
 have hB := ethen hB e27
 refine ⟨r23, rfl, ?_⟩
 refine brc H (fun h H => ?_) fun h H => ?_
 ·cases hr.trans H.symm
  exact ⟨rfl, hB⟩
 refine ⟨_, _, _, (O3.a 2), ?_⟩
 obtain ⟨hp30, H⟩ := H
 obtain ⟨r28, hr29, H⟩ := callO H
 refine (laws_szIntS.con hp30 hr29 (R0_2.ext hB) hc0_2).mono ?_
 rintro _ w31 ⟨rfl, e32⟩
 have hB := ethen hB e32
 refine ⟨r28, rfl, ?_⟩
 refine brc H (fun h H => ?_) fun h H => ?_
 ·cases hr.trans H.symm
  exact ⟨rfl, hB⟩
 cases hr.trans H.symm
 exact ⟨rfl, hB⟩
def laws_szWarpS.vc (A0 : OA) (n0 c0 : Nat) (x1 : Int) (w : World) (K : VK) : Prop :=
  bcase (decide ((wrap .i64 (x1 - ((n0 : Nat) : Int))) < 0)) (K (iv (-1)) w) (LoopT (σ := Int × Int × Unit) (fun z21 w22 next23 => bcase (decide (z21.2.1 < ((n0 : Nat) : Int))) ((idx z21.2.1 n0 A0 fun a24 => ldI w22 ((a24.add ((z21.2.1.toNat) * 3)).add 0) fun n25 => ldS w22 ((a24.add ((z21.2.1.toNat) * 3)).add 1) fun A26 n27 c28 => ldS w22 ((a24.add ((z21.2.1.toNat) * 3)).add 2) fun A29 n30 c31 => Cl 97 #[(.agg #[(iv n25), (sv A26 n27 c28), (sv A29 n30 c31)]), (iv z21.1)] w22 fun v32 w33 => (∃ (n34 : Int), v32 = (iv n34) ∧ bcase (decide (n34 < 0)) (K (iv (-1)) w33) (next23 (n34, (wrap .i64 (z21.2.1 + 1)), ()) w33)))) (K (iv z21.1) w22)) ((wrap .i64 (x1 - ((n0 : Nat) : Int))), 0, ()) w)

def laws_szWarpS.ann : Ann := (.seq .l (.seq .l (.seq (.seq .l (.two (.seq .l .l) .l)) (.seq (.seq .l (.one (.loop [(1, .int .i64), (5, .int .i64)] (.seq (.seq .l (.two .l .l)) (.seq (.one (.seq .l (.seq .l (.two (.seq .l .l) .l)))) .l))))) (.seq .l .l)))))

theorem laws_szWarpS.con {xs0 : List D.Warp} {A0 : OA} {c0 : Nat} {x1 r : Int} {w : World} (hp : M.laws_szWarpS_pre xs0 x1) (hr : r = M.laws_szWarpS xs0 x1) (R0 : RowW 111 el169 el3 w A0 xs0) (hc0 : xs0.length ≤ c0) :
    Cl 44 #[(sv A0 xs0.length c0), (iv x1)] w (fun v_ w_ => v_ = (iv r) ∧ Ext w w_) := by
 have H := wp.laws_szWarpS.math xs0 x1 hp
 have hB := Ext.refl w
 refine begK mixed Tryz.f44 ann (vc A0 xs0.length c0 x1) ?_
 unfold vc
 unfold wp.laws_szWarpS at H
 refine brc H (fun h H => ?_) fun h H => ?_
 ·cases hr.trans H.symm
  exact ⟨rfl, hB⟩
 obtain ⟨J24, ⟨m56, hJ55⟩, hS25⟩ := H
 refine ⟨fun m_ z_ w_ => ∃ (i21 i22 : Int), z_ = (i21, i22, ()) ∧ J24 m_ (i21, i22, ()) ∧ Ext w w_, ⟨m56, (wrap .i64 (x1 - (xs0.length : Int))), 0, rfl, hJ55, hB⟩, ?_⟩
 rintro m23 _ w27 ⟨i21, i22, rfl, hJ57, hB⟩
 have H := hS25 m23 _ hJ57
 clear hS25 hJ57
 try dsimp only at H ⊢
 refine brc H (fun h H => ?_) fun h H => ?_
 ·obtain ⟨⟨h0_31, h1_32⟩, H⟩ := H
  obtain ⟨a29, ha30, A36, c37, A38, c39, f33, f34, f35, R40, hle42, R41, hle43⟩ := RowW.at R0 h0_31 h1_32
  refine ⟨h0_31, h1_32, a29, ha30, _, (Ext.cell hB f33), _, _, _, (Ext.cell hB f34), _, _, _, (Ext.cell hB f35), ?_⟩
  obtain ⟨hp46, H⟩ := H
  obtain ⟨r44, hr45, H⟩ := callO H
  refine (cllA (laws_szWarp.con hp46 hr45 (R40.ext hB) hle42 (R41.ext hB) hle43)).mono ?_
  rintro _ w47 ⟨rfl, e48⟩
  have hB := ethen hB e48
  refine ⟨r44, rfl, ?_⟩
  refine brc H (fun h H => ?_) fun h H => ?_
  ·cases hr.trans H.symm
   exact ⟨rfl, hB⟩
  obtain ⟨m49, hm50, hJ51⟩ := H
  exact ⟨m49, hm50, r44, _, rfl, hJ51, hB⟩
 cases hr.trans H.symm
 exact ⟨rfl, hB⟩
def laws_szBlock.vc (A0_0 : OA) (n0_0 c0_0 : Nat) (A0_1 : OA) (n0_1 c0_1 : Nat) (A0_2 : OA) (n0_2 c0_2 : Nat) (x0_3 x0_4 x1 : Int) (w : World) (K : VK) : Prop :=
  newK w (.cells (vB A0_0 n0_0 c0_0 A0_1 n0_1 c0_1 A0_2 n0_2 c0_2 x0_3 x0_4) 26) fun g21 w22 => ldS w22 (((bx g21).add 0).add 0) fun A23 n24 c25 => Cl 43 #[(sv A23 n24 c25), (iv x1)] w22 fun v26 w27 => (∃ (n28 : Int), v26 = (iv n28) ∧ bcase (decide (n28 < 0)) (K (iv (-1)) w27) (ldS w27 (((bx g21).add 1).add 0) fun A29 n30 c31 => Cl 44 #[(sv A29 n30 c31), (iv n28)] w27 fun v32 w33 => (∃ (n34 : Int), v32 = (iv n34) ∧ bcase (decide (n34 < 0)) (K (iv (-1)) w33) (ldS w33 (((bx g21).add 2).add 0) fun A35 n36 c37 => Cl 45 #[(sv A35 n36 c37), (iv n34)] w33 fun v38 w39 => (∃ (n40 : Int), v38 = (iv n40) ∧ bcase (decide (n40 < 0)) (K (iv (-1)) w39) (K (iv n40) w39))))))

def laws_szBlock.ann : Ann := (.seq .l (.seq .l (.seq (.seq .l (.two (.seq .l .l) .l)) (.seq .l (.seq (.seq .l (.two (.seq .l .l) .l)) (.seq .l (.seq (.seq .l (.two (.seq .l .l) .l)) (.seq .l .l))))))))

theorem laws_szBlock.con {s0 : D.Block} {A0_0 A0_1 A0_2 : OA} {c0_0 c0_1 c0_2 : Nat} {x1 r : Int} {w : World} (hp : M.laws_szBlock_pre s0 x1) (hr : r = M.laws_szBlock s0 x1) (R0_0 : Row el117 w A0_0 s0.Code) (hc0_0 : s0.Code.length ≤ c0_0) (R0_1 : RowW 111 el169 el3 w A0_1 s0.Warps) (hc0_1 : s0.Warps.length ≤ c0_1) (R0_2 : Row el3 w A0_2 s0.Memory) (hc0_2 : s0.Memory.length ≤ c0_2) :
    Cl 9 #[(.agg (bC A0_0 c0_0 A0_1 c0_1 A0_2 c0_2 s0)), (iv x1)] w (fun v_ w_ => v_ = (iv r) ∧ Ext w w_) := by
 have H := wp.laws_szBlock.math s0 x1 hp
 refine begK mixed Tryz.f9 ann (vc A0_0 s0.Code.length c0_0 A0_1 s0.Warps.length c0_1 A0_2 s0.Memory.length c0_2 s0.Waiting s0.Phase x1) ?_
 unfold vc
 unfold wp.laws_szBlock at H
 refine newBlk (fun g4_ w21 L4 O4 e22 => ?_)
 have hB := ethen (Ext.refl w) e22
 refine ⟨_, _, _, (O4.a 0), ?_⟩
 obtain ⟨hp25, H⟩ := H
 obtain ⟨r23, hr24, H⟩ := callO H
 refine (laws_szInsS.con hp25 hr24 (R0_0.ext hB) hc0_0).mono ?_
 rintro _ w26 ⟨rfl, e27⟩
 have O4 := O4.ext e27
 have hB := ethen hB e27
 refine ⟨r23, rfl, ?_⟩
 refine brc H (fun h H => ?_) fun h H => ?_
 ·cases hr.trans H.symm
  exact ⟨rfl, hB⟩
 refine ⟨_, _, _, (O4.a 1), ?_⟩
 obtain ⟨hp30, H⟩ := H
 obtain ⟨r28, hr29, H⟩ := callO H
 refine (laws_szWarpS.con hp30 hr29 (R0_1.ext hB) hc0_1).mono ?_
 rintro _ w31 ⟨rfl, e32⟩
 have O4 := O4.ext e32
 have hB := ethen hB e32
 refine ⟨r28, rfl, ?_⟩
 refine brc H (fun h H => ?_) fun h H => ?_
 ·cases hr.trans H.symm
  exact ⟨rfl, hB⟩
 refine ⟨_, _, _, (O4.a 2), ?_⟩
 obtain ⟨hp35, H⟩ := H
 obtain ⟨r33, hr34, H⟩ := callO H
 refine (laws_szIntS.con hp35 hr34 (R0_2.ext hB) hc0_2).mono ?_
 rintro _ w36 ⟨rfl, e37⟩
 have hB := ethen hB e37
 refine ⟨r33, rfl, ?_⟩
 refine brc H (fun h H => ?_) fun h H => ?_
 ·cases hr.trans H.symm
  exact ⟨rfl, hB⟩
 cases hr.trans H.symm
 exact ⟨rfl, hB⟩
def laws_toFrame.vc (x0_0 x0_1 x0_2 : Int) (w : World) (K : VK) : Prop :=
  newK w (.cells #[(iv x0_0), (iv x0_1), (iv x0_2)] 169) fun g21 w22 => newK w22 (.cells #[(iv 0), (iv 0), (iv 0)] 91) fun g23 w24 => newK w24 (.cells #[(iv 0), (iv 0), (iv 0)] 91) fun g25 w26 => ldI w26 (((bx g21).add 0).add 0) fun n27 => stCells ((bx g25).add 0) [(iv n27)] 0 w26 fun w28 => ldI w28 (((bx g21).add 1).add 0) fun n29 => stCells ((bx g25).add 1) [(iv n29)] 0 w28 fun w30 => ldI w30 (((bx g21).add 2).add 0) fun n31 => stCells ((bx g25).add 2) [(iv n31)] 0 w30 fun w32 => ldI w32 ((bx g25).add 0) fun n33 => ldI w32 ((bx g25).add 1) fun n34 => ldI w32 ((bx g25).add 2) fun n35 => stCells (bx g23) [(iv n33), (iv n34), (iv n35)] 0 w32 fun w36 => ldI w36 ((bx g23).add 0) fun n37 => ldI w36 ((bx g23).add 1) fun n38 => ldI w36 ((bx g23).add 2) fun n39 => K (.agg #[(iv n37), (iv n38), (iv n39)]) w36

def laws_toFrame.ann : Ann := (.seq .l (.seq .l (.seq .l (.seq .l (.seq .l (.seq .l .l))))))

theorem laws_toFrame.con {s0 r : D.Frame} {w : World} (hr : r = M.laws_toFrame s0)  :
    Cl 185 #[(.agg #[(iv s0.Pc), (iv s0.Stop), (iv s0.Mask)])] w (fun v_ w_ => v_ = (.agg #[(iv r.Pc), (iv r.Stop), (iv r.Mask)]) ∧ Ext w w_) := by
 have H := wp.laws_toFrame.math s0
 refine begK mixed Tryz.f185 ann (vc s0.Pc s0.Stop s0.Mask) ?_
 unfold vc
 unfold wp.laws_toFrame at H
 refine newBlk (fun g1_ w21 L1 O1 e22 => ?_)
 have hB := ethen (Ext.refl w) e22
 refine newBlk (fun g2_ w23 L2 P2 e24 => ?_)
 have O1 := O1.ext e24
 have O2 := P2
 have L2 := Nat.le_trans hB.size L2
 have hB := ethen hB e24
 refine newBlk (fun g3_ w25 L3 P3 e26 => ?_)
 have N1_3 := O1.ne L3
 have N2_3 := O2.ne L3
 have O1 := O1.ext e26
 have O2 := O2.ext e26
 have O3 := P3
 have L3 := Nat.le_trans hB.size L3
 have hB := ethen hB e26
 refine ⟨_, (O1.a 0), ?_⟩
 refine stB O3 0 #[(iv s0.Pc), (iv 0), (iv 0)] (fun w27 P3 e28 => ?_)
 have O1_ := O1.chg e28 N1_3
 have O2_ := O2.chg e28 N2_3
 have O1 := O1_
 have O2 := O2_
 have hB := echg hB e28 L3
 have O3 := P3
 refine ⟨_, (O1.a 1), ?_⟩
 refine stB O3 1 #[(iv s0.Pc), (iv s0.Stop), (iv 0)] (fun w29 P3 e30 => ?_)
 have O1_ := O1.chg e30 N1_3
 have O2_ := O2.chg e30 N2_3
 have O1 := O1_
 have hB := echg hB e30 L3
 have O3 := P3
 refine ⟨_, (O1.a 2), ?_⟩
 refine stBlk O3 (o := 2) (cs' := #[(iv s0.Pc), (iv s0.Stop), (iv s0.Mask)]) rfl rfl (Nat.le_of_ble_eq_true rfl) rfl (fun w31 O3 e32 => ?_)
 have O2 := O2_.chg e32 N2_3
 have hB := echg hB e32 L3
 refine ⟨_, (O3.a 0), _, (O3.a 1), _, (O3.a 2), ?_⟩
 refine stBlk O2 (o := 0) (cs' := #[(iv s0.Pc), (iv s0.Stop), (iv s0.Mask)]) rfl rfl (Nat.le_of_ble_eq_true rfl) rfl (fun w33 O2 e34 => ?_)
 have hB := echg hB e34 L2
 refine ⟨_, (O2.a 0), _, (O2.a 1), _, (O2.a 2), ?_⟩
 cases hr.trans H.symm
 exact ⟨rfl, hB⟩
def laws_toFrameS.vc (A0 : OA) (n0 c0 : Nat) (w : World) (K : VK) : Prop :=
  vcMake Tryz.prog 50 ((n0 : Nat) : Int) ((n0 : Nat) : Int) w fun g21 w22 => LoopT (σ := Int × Unit) (fun z23 w24 next25 => bcase (decide (z23.1 < ((n0 : Nat) : Int))) ((idx z23.1 n0 A0 fun a26 => ldI w24 ((a26.add ((z23.1.toNat) * 3)).add 0) fun n27 => ldI w24 ((a26.add ((z23.1.toNat) * 3)).add 1) fun n28 => ldI w24 ((a26.add ((z23.1.toNat) * 3)).add 2) fun n29 => Cl 185 #[(.agg #[(iv n27), (iv n28), (iv n29)])] w24 fun v30 w31 => (∃ (n32 : Int), True ∧ ∃ (n33 : Int), True ∧ ∃ (n34 : Int), True ∧ v30 = (.agg #[(iv n32), (iv n33), (iv n34)]) ∧ (idx z23.1 (((n0 : Nat) : Int).toNat) ((some (bx g21))) fun a35 => stCells (a35.add ((z23.1.toNat) * 3)) [(iv n32), (iv n33), (iv n34)] 0 w31 fun w36 => next25 ((wrap .i64 (z23.1 + 1)), ()) w36)))) (K (sv (some (bx g21)) (((n0 : Nat) : Int).toNat) (((n0 : Nat) : Int).toNat)) w24)) (0, ()) w22

def laws_toFrameS.ann : Ann := (.seq .l (.seq .l (.seq (.seq .l (.one (.loop [(4, .int .i64)] (.seq (.seq .l (.two .l .l)) (.seq (.one .l) .l))))) (.seq .l .l))))

theorem laws_toFrameS.con {xs0 r : List D.Frame} {A0 : OA} {c0 : Nat} {w : World} (hp : M.laws_toFrameS_pre xs0) (hr : r = M.laws_toFrameS xs0) (R0 : Row el169 w A0 xs0) (hc0 : xs0.length ≤ c0) :
    Cl 154 #[(sv A0 xs0.length c0)] w (fun v_ w_ => ∃ (A0_ : OA) (c0_ : Nat), v_ = (sv A0_ r.length c0_) ∧ Own el91 w_ w.heap.size A0_ c0_ r ∧ Ext w w_) := by
 have H := wp.laws_toFrameS.math xs0 hp
 have hB := Ext.refl w
 refine begK mixed Tryz.f154 ann (vc A0 xs0.length c0) ?_
 unfold vc
 unfold wp.laws_toFrameS at H
 obtain ⟨⟨h0_24, h1_25⟩, H⟩ := H
 refine makeOwn slt50 h0_24 h1_25 (fun g21 w22 P2 e23 => ?_)
 have O2 := P2.mono hB.size
 have hB := ethen hB e23
 obtain ⟨J54, ⟨m82, hJ81⟩, hS55⟩ := H
 refine ⟨fun m_ z_ w_ => ∃ (i50 : Int) (xs51 : List D.Frame), z_ = (i50, ()) ∧ J54 m_ (i50, xs51, ()) ∧ Ext w w_ ∧ Own el91 w_ w.heap.size (some (bx g21)) ((xs0.length : Int).toNat) xs51 ∧ ((xs0.length : Int).toNat) = xs51.length, ⟨m82, 0, (List.replicate ((xs0.length : Int).toNat) (default : D.Frame)), rfl, hJ81, hB, O2, (by first | rfl | assumption | omega | (simp; done) | (simp; omega) | (simp; assumption))⟩, ?_⟩
 rintro m53 _ w57 ⟨i50, xs51, rfl, hJ83, hB, O2, hn52⟩
 have H := hS55 m53 _ hJ83
 clear hS55 hJ83
 try dsimp only at H ⊢
 refine brc H (fun h H => ?_) fun h H => ?_
 ·obtain ⟨⟨h0_61, h1_62⟩, H⟩ := H
  obtain ⟨a59, ha60, hat58⟩ := Row.at (R0.ext hB) h0_61 h1_62
  refine ⟨h0_61, h1_62, a59, ha60, _, (hat58 0 _ rfl), _, (hat58 1 _ rfl), _, (hat58 2 _ rfl), ?_⟩
  obtain ⟨r63, hr64, H⟩ := callO H
  refine (laws_toFrame.con hr64 ).mono ?_
  rintro _ w66 ⟨rfl, e67⟩
  have O2 := O2.ext e67
  have hB := ethen hB e67
  refine ⟨r63.Pc, trivial, r63.Stop, trivial, r63.Mask, trivial, rfl, ?_⟩
  obtain ⟨⟨h0_71, h1_72⟩, H⟩ := H
  obtain ⟨a69, ha70, hat68⟩ := Row.at O2.row h0_71 h1_72
  refine ⟨h0_71, (by first | exact h1_72 | omega | (simp at h1_72 ⊢; omega)), a69, ha70, ?_⟩
  refine Own.stA O2 ha70 h0_71 h1_72 0 (⟨r63.Pc, r63.Stop, r63.Mask⟩ : D.Frame) (fun w73 O2 e74 hb75 => ?_)
  have hB := echg hB e74 hb75
  obtain ⟨m76, hm77, hJ78⟩ := H
  exact ⟨m76, hm77, _, _, rfl, hJ78, hB, O2, (by first | rfl | assumption | omega | (simp; done) | (simp; omega) | (simp; assumption))⟩
 cases hr.trans H.symm
 exact ⟨(some (bx g21)), ((xs0.length : Int).toNat), (by first | rfl | (rw [hn52]; done) | (simp; done) | (simp; omega) | (simp [*]; done)), (by first | exact O2 | (simp only [bC, wC, List.length_set]; exact O2) | (rw [← hn52]; exact O2)), hB⟩
def laws_toWarp.vc (x0_0 : Int) (A0_1 : OA) (n0_1 c0_1 : Nat) (A0_2 : OA) (n0_2 c0_2 : Nat) (w : World) (K : VK) : Prop :=
  newK w (.cells #[(iv x0_0), (sv A0_1 n0_1 c0_1), (sv A0_2 n0_2 c0_2)] 111) fun g21 w22 => newK w22 (.cells #[(iv 0), (sv none 0 0), (sv none 0 0)] 52) fun g23 w24 => newK w24 (.cells #[(iv 0), (sv none 0 0), (sv none 0 0)] 52) fun g25 w26 => ldI w26 (((bx g21).add 0).add 0) fun n27 => stCells ((bx g25).add 0) [(iv n27)] 0 w26 fun w28 => ldS w28 (((bx g21).add 1).add 0) fun A29 n30 c31 => Cl 154 #[(sv A29 n30 c31)] w28 fun v32 w33 => (∃ (A34 : OA) (n35 c36 : Nat), v32 = (sv A34 n35 c36) ∧ stCells ((bx g25).add 1) [(sv A34 n35 c36)] 0 w33 fun w37 => ldS w37 (((bx g21).add 2).add 0) fun A38 n39 c40 => Cl 49 #[(sv A38 n39 c40)] w37 fun v41 w42 => (∃ (A43 : OA) (n44 c45 : Nat), v41 = (sv A43 n44 c45) ∧ stCells ((bx g25).add 2) [(sv A43 n44 c45)] 0 w42 fun w46 => ldI w46 ((bx g25).add 0) fun n47 => ldS w46 ((bx g25).add 1) fun A48 n49 c50 => ldS w46 ((bx g25).add 2) fun A51 n52 c53 => stCells (bx g23) [(iv n47), (sv A48 n49 c50), (sv A51 n52 c53)] 0 w46 fun w54 => ldI w54 ((bx g23).add 0) fun n55 => ldS w54 ((bx g23).add 1) fun A56 n57 c58 => ldS w54 ((bx g23).add 2) fun A59 n60 c61 => K (.agg #[(iv n55), (sv A56 n57 c58), (sv A59 n60 c61)]) w54))

def laws_toWarp.ann : Ann := (.seq .l (.seq .l (.seq .l (.seq .l (.seq .l (.seq .l .l))))))

theorem laws_toWarp.con {s0 r : D.Warp} {A0_1 A0_2 : OA} {c0_1 c0_2 : Nat} {w : World} (hp : M.laws_toWarp_pre s0) (hr : r = M.laws_toWarp s0) (R0_1 : Row el169 w A0_1 s0.Frames) (hc0_1 : s0.Frames.length ≤ c0_1) (R0_2 : Row el3 w A0_2 s0.Regs) (hc0_2 : s0.Regs.length ≤ c0_2) :
    Cl 104 #[(.agg (wC A0_1 c0_1 A0_2 c0_2 s0))] w (fun v_ w_ => ∃ (A0_ : OA) (c0_ : Nat) (A1_ : OA) (c1_ : Nat), v_ = (.agg (wC A0_ c0_ A1_ c1_ r)) ∧ Own el91 w_ w.heap.size A0_ c0_ r.Frames ∧ Own el3 w_ w.heap.size A1_ c1_ r.Regs ∧ Ext w w_) := by
 have H := wp.laws_toWarp.math s0 hp
 refine begK mixed Tryz.f104 ann (vc s0.Number A0_1 s0.Frames.length c0_1 A0_2 s0.Regs.length c0_2) ?_
 unfold vc
 unfold wp.laws_toWarp at H
 refine newBlk (fun g3_ w21 L3 O3 e22 => ?_)
 have hB := ethen (Ext.refl w) e22
 refine newBlk (fun g4_ w23 L4 P4 e24 => ?_)
 have O3 := O3.ext e24
 have O4 := P4
 have L4 := Nat.le_trans hB.size L4
 have hB := ethen hB e24
 refine newBlk (fun g5_ w25 L5 P5 e26 => ?_)
 have N3_5 := O3.ne L5
 have N4_5 := O4.ne L5
 have O3 := O3.ext e26
 have O4 := O4.ext e26
 have O5 := P5
 have L5 := Nat.le_trans hB.size L5
 have hB := ethen hB e26
 refine ⟨_, (O3.a 0), ?_⟩
 refine stB O5 0 #[(iv s0.Number), (sv none 0 0), (sv none 0 0)] (fun w27 P5 e28 => ?_)
 have O3_ := O3.chg e28 N3_5
 have O4_ := O4.chg e28 N4_5
 have O3 := O3_
 have O4 := O4_
 have hB := echg hB e28 L5
 have O5 := P5
 refine ⟨_, _, _, (O3.a 1), ?_⟩
 obtain ⟨hp31, H⟩ := H
 obtain ⟨r29, hr30, H⟩ := callO H
 refine (laws_toFrameS.con hp31 hr30 (R0_1.ext hB) hc0_1).mono ?_
 rintro _ w32 ⟨A34, c35, rfl, P6, e33⟩
 have N6_4 := P6.apart_old O4.lt
 have N6_5 := P6.apart_old O5.lt
 have O3 := O3.ext e33
 have O4 := O4.ext e33
 have O5 := O5.ext e33
 have O6 := P6.mono hB.size
 have hB := ethen hB e33
 refine ⟨A34, r29.length, c35, rfl, ?_⟩
 refine stB O5 1 #[(iv s0.Number), (sv A34 r29.length c35), (sv none 0 0)] (fun w36 P5 e37 => ?_)
 have O3_ := O3.chg e37 N3_5
 have O4_ := O4.chg e37 N4_5
 have O6_ := O6.chg e37 N6_5
 have O3 := O3_
 have O4 := O4_
 have hB := echg hB e37 L5
 have O5 := P5
 refine ⟨_, _, _, (O3.a 2), ?_⟩
 obtain ⟨hp40, H⟩ := H
 obtain ⟨r38, hr39, H⟩ := callO H
 refine (laws_toIntS.con hp40 hr39 (R0_2.ext hB) hc0_2).mono ?_
 rintro _ w41 ⟨A43, c44, rfl, P7, e42⟩
 have N7_4 := P7.apart_old O4.lt
 have N7_5 := P7.apart_old O5.lt
 have O5 := O5.ext e42
 have O6 := O6_.ext e42
 have O7 := P7.mono hB.size
 have hB := ethen hB e42
 refine ⟨A43, r38.length, c44, rfl, ?_⟩
 refine stBlk O5 (o := 2) (cs' := #[(iv s0.Number), (sv A34 r29.length c35), (sv A43 r38.length c44)]) rfl rfl (Nat.le_of_ble_eq_true rfl) rfl (fun w45 O5 e46 => ?_)
 have O4 := (O4.ext e42).chg e46 N4_5
 have O6_ := O6.chg e46 N6_5
 have O7_ := O7.chg e46 N7_5
 have hB := echg hB e46 L5
 refine ⟨_, (O5.a 0), _, _, _, (O5.a 1), _, _, _, (O5.a 2), ?_⟩
 refine stBlk O4 (o := 0) (cs' := #[(iv s0.Number), (sv A34 r29.length c35), (sv A43 r38.length c44)]) rfl rfl (Nat.le_of_ble_eq_true rfl) rfl (fun w47 O4 e48 => ?_)
 have O6 := O6_.chg e48 N6_4
 have O7 := O7_.chg e48 N7_4
 have hB := echg hB e48 L4
 refine ⟨_, (O4.a 0), _, _, _, (O4.a 1), _, _, _, (O4.a 2), ?_⟩
 cases hr.trans H.symm
 exact ⟨A34, c35, A43, c44, rfl, O6, O7, hB⟩
def laws_toWarpS.vc (A0 : OA) (n0 c0 : Nat) (w : World) (K : VK) : Prop :=
  vcMake Tryz.prog 31 ((n0 : Nat) : Int) ((n0 : Nat) : Int) w fun g21 w22 => LoopT (σ := Int × Unit) (fun z23 w24 next25 => bcase (decide (z23.1 < ((n0 : Nat) : Int))) ((idx z23.1 n0 A0 fun a26 => ldI w24 ((a26.add ((z23.1.toNat) * 3)).add 0) fun n27 => ldS w24 ((a26.add ((z23.1.toNat) * 3)).add 1) fun A28 n29 c30 => ldS w24 ((a26.add ((z23.1.toNat) * 3)).add 2) fun A31 n32 c33 => Cl 104 #[(.agg #[(iv n27), (sv A28 n29 c30), (sv A31 n32 c33)])] w24 fun v34 w35 => (∃ (n36 : Int), True ∧ ∃ (A37 : OA) (n38 c39 : Nat), True ∧ ∃ (A40 : OA) (n41 c42 : Nat), True ∧ v34 = (.agg #[(iv n36), (sv A37 n38 c39), (sv A40 n41 c42)]) ∧ (idx z23.1 (((n0 : Nat) : Int).toNat) ((some (bx g21))) fun a43 => stCells (a43.add ((z23.1.toNat) * 3)) [(iv n36), (sv A37 n38 c39), (sv A40 n41 c42)] 0 w35 fun w44 => next25 ((wrap .i64 (z23.1 + 1)), ()) w44)))) (K (sv (some (bx g21)) (((n0 : Nat) : Int).toNat) (((n0 : Nat) : Int).toNat)) w24)) (0, ()) w22

def laws_toWarpS.ann : Ann := (.seq .l (.seq .l (.seq (.seq .l (.one (.loop [(4, .int .i64)] (.seq (.seq .l (.two .l .l)) (.seq (.one .l) .l))))) (.seq .l .l))))

theorem laws_toWarpS.con {xs0 r : List D.Warp} {A0 : OA} {c0 : Nat} {w : World} (hp : M.laws_toWarpS_pre xs0) (hr : r = M.laws_toWarpS xs0) (R0 : RowW 111 el169 el3 w A0 xs0) (hc0 : xs0.length ≤ c0) :
    Cl 48 #[(sv A0 xs0.length c0)] w (fun v_ w_ => ∃ (A0_ : OA) (c0_ : Nat) (F0_ : Nat → Prop), v_ = (sv A0_ r.length c0_) ∧ OwnW 52 el91 el3 w_ w.heap.size F0_ A0_ c0_ r ∧ Ext w w_) := by
 have H := wp.laws_toWarpS.math xs0 hp
 have hB := Ext.refl w
 refine begK mixed Tryz.f48 ann (vc A0 xs0.length c0) ?_
 unfold vc
 unfold wp.laws_toWarpS at H
 obtain ⟨⟨h0_24, h1_25⟩, H⟩ := H
 refine makeOwn slt31 h0_24 h1_25 (fun g21 w22 P2 e23 => ?_)
 have P2 : OwnW 52 el91 el3 _ _ _ _ _ _ := OwnW.made P2
 have O2 := P2.mono hB.size
 have hB := ethen hB e23
 obtain ⟨J70, ⟨m113, hJ112⟩, hS71⟩ := H
 refine ⟨fun m_ z_ w_ => ∃ (i65 : Int) (xs66 : List D.Warp) (F67 : Nat → Prop), z_ = (i65, ()) ∧ J70 m_ (i65, xs66, ()) ∧ Ext w w_ ∧ OwnW 52 el91 el3 w_ w.heap.size F67 (some (bx g21)) ((xs0.length : Int).toNat) xs66 ∧ ((xs0.length : Int).toNat) = xs66.length, ⟨m113, 0, (List.replicate ((xs0.length : Int).toNat) (default : D.Warp)), (fun _ => False), rfl, hJ112, hB, O2, (by first | rfl | assumption | omega | (simp; done) | (simp; omega) | (simp; assumption))⟩, ?_⟩
 rintro m69 _ w73 ⟨i65, xs66, F67, rfl, hJ114, hB, O2, hn68⟩
 have H := hS71 m69 _ hJ114
 clear hS71 hJ114
 try dsimp only at H ⊢
 refine brc H (fun h H => ?_) fun h H => ?_
 ·obtain ⟨⟨h0_77, h1_78⟩, H⟩ := H
  obtain ⟨a75, ha76, A82, c83, A84, c85, f79, f80, f81, R86, hle88, R87, hle89⟩ := RowW.at R0 h0_77 h1_78
  refine ⟨h0_77, h1_78, a75, ha76, _, (Ext.cell hB f79), _, _, _, (Ext.cell hB f80), _, _, _, (Ext.cell hB f81), ?_⟩
  obtain ⟨hp92, H⟩ := H
  obtain ⟨r90, hr91, H⟩ := callO H
  refine (cllA (laws_toWarp.con hp92 hr91 (R86.ext hB) hle88 (R87.ext hB) hle89)).mono ?_
  rintro _ w93 ⟨A95, c96, A97, c98, rfl, P9, P10, e94⟩
  have N2_9 := O2.dis_new P9 (Nat.le_refl _)
  have N2_10 := O2.dis_new P10 (Nat.le_refl _)
  have O2 := O2.ext e94
  have O9 := P9.mono hB.size
  have O10 := P10.mono hB.size
  have hB := ethen hB e94
  refine ⟨r90.Number, trivial, A95, r90.Frames.length, c96, trivial, A97, r90.Regs.length, c98, trivial, rfl, ?_⟩
  obtain ⟨⟨h0_102, h1_103⟩, H⟩ := H
  obtain ⟨a100, ha101, _⟩ := RowW.at O2.row h0_102 h1_103
  refine ⟨h0_102, (by first | exact h1_103 | omega | (simp at h1_103 ⊢; omega)), a100, ha101, ?_⟩
  have X2_9 := N2_9
  have X2_10 := N2_10
  refine OwnW.storeAt O2 ha101 h0_102 h1_103 r90 O9 O10 (by decide) (by decide) X2_9 X2_10 (fun w104 O2 e105 hb106 => ?_)
  have hB := echg hB e105 hb106
  obtain ⟨m107, hm108, hJ109⟩ := H
  exact ⟨m107, hm108, _, _, (fun g => F67 g ∨ InB A95 g ∨ InB A97 g), rfl, hJ109, hB, O2, (by first | rfl | assumption | omega | (simp; done) | (simp; omega) | (simp; assumption))⟩
 cases hr.trans H.symm
 exact ⟨(some (bx g21)), ((xs0.length : Int).toNat), F67, (by first | rfl | (rw [hn68]; done) | (simp; done) | (simp; omega) | (simp [*]; done)), (by first | exact O2 | (simp only [bC, wC, List.length_set]; exact O2) | (rw [← hn68]; exact O2)), hB⟩
def laws_toBlock.vc (A0_0 : OA) (n0_0 c0_0 : Nat) (A0_1 : OA) (n0_1 c0_1 : Nat) (A0_2 : OA) (n0_2 c0_2 : Nat) (x0_3 x0_4 : Int) (w : World) (K : VK) : Prop :=
  newK w (.cells (vB A0_0 n0_0 c0_0 A0_1 n0_1 c0_1 A0_2 n0_2 c0_2 x0_3 x0_4) 26) fun g21 w22 => newK w22 (.cells zC 33) fun g23 w24 => newK w24 (.cells zC 33) fun g25 w26 => ldS w26 (((bx g21).add 0).add 0) fun A27 n28 c29 => Cl 47 #[(sv A27 n28 c29)] w26 fun v30 w31 => (∃ (A32 : OA) (n33 c34 : Nat), v30 = (sv A32 n33 c34) ∧ stCells ((bx g25).add 0) [(sv A32 n33 c34)] 0 w31 fun w35 => ldS w35 (((bx g21).add 1).add 0) fun A36 n37 c38 => Cl 48 #[(sv A36 n37 c38)] w35 fun v39 w40 => (∃ (A41 : OA) (n42 c43 : Nat), v39 = (sv A41 n42 c43) ∧ stCells ((bx g25).add 1) [(sv A41 n42 c43)] 0 w40 fun w44 => ldS w44 (((bx g21).add 2).add 0) fun A45 n46 c47 => Cl 49 #[(sv A45 n46 c47)] w44 fun v48 w49 => (∃ (A50 : OA) (n51 c52 : Nat), v48 = (sv A50 n51 c52) ∧ stCells ((bx g25).add 2) [(sv A50 n51 c52)] 0 w49 fun w53 => ldI w53 (((bx g21).add 3).add 0) fun n54 => stCells ((bx g25).add 3) [(iv n54)] 0 w53 fun w55 => ldI w55 (((bx g21).add 4).add 0) fun n56 => stCells ((bx g25).add 4) [(iv n56)] 0 w55 fun w57 => ldB w57 (bx g25) fun A58 n59 c60 A61 n62 c63 A64 n65 c66 n67 n68 => stCells (bx g23) [(sv A58 n59 c60), (sv A61 n62 c63), (sv A64 n65 c66), (iv n67), (iv n68)] 0 w57 fun w69 => ldB w69 (bx g23) fun A70 n71 c72 A73 n74 c75 A76 n77 c78 n79 n80 => K (.agg (vB A70 n71 c72 A73 n74 c75 A76 n77 c78 n79 n80)) w69)))

def laws_toBlock.ann : Ann := (.seq .l (.seq .l (.seq .l (.seq .l (.seq .l (.seq .l (.seq .l (.seq .l .l))))))))

theorem laws_toBlock.con {s0 r : D.Block} {A0_0 A0_1 A0_2 : OA} {c0_0 c0_1 c0_2 : Nat} {w : World} (hp : M.laws_toBlock_pre s0) (hr : r = M.laws_toBlock s0) (R0_0 : Row el117 w A0_0 s0.Code) (hc0_0 : s0.Code.length ≤ c0_0) (R0_1 : RowW 111 el169 el3 w A0_1 s0.Warps) (hc0_1 : s0.Warps.length ≤ c0_1) (R0_2 : Row el3 w A0_2 s0.Memory) (hc0_2 : s0.Memory.length ≤ c0_2) :
    Cl 11 #[(.agg (bC A0_0 c0_0 A0_1 c0_1 A0_2 c0_2 s0))] w (fun v_ w_ => ∃ (A0_ : OA) (c0_ : Nat) (A1_ : OA) (c1_ : Nat) (F1_ : Nat → Prop) (A2_ : OA) (c2_ : Nat), v_ = (.agg (bC A0_ c0_ A1_ c1_ A2_ c2_ r)) ∧ Own el84 w_ w.heap.size A0_ c0_ r.Code ∧ OwnW 52 el91 el3 w_ w.heap.size F1_ A1_ c1_ r.Warps ∧ Own el3 w_ w.heap.size A2_ c2_ r.Memory ∧ Dis (InW A1_ F1_) (InB A2_) ∧ Ext w w_) := by
 have H := wp.laws_toBlock.math s0 hp
 refine begK mixed Tryz.f11 ann (vc A0_0 s0.Code.length c0_0 A0_1 s0.Warps.length c0_1 A0_2 s0.Memory.length c0_2 s0.Waiting s0.Phase) ?_
 unfold vc
 unfold wp.laws_toBlock at H
 refine newBlk (fun g4_ w21 L4 O4 e22 => ?_)
 have hB := ethen (Ext.refl w) e22
 refine newBlk (fun g5_ w23 L5 P5 e24 => ?_)
 have O4 := O4.ext e24
 have O5 := P5
 have L5 := Nat.le_trans hB.size L5
 have hB := ethen hB e24
 refine newBlk (fun g6_ w25 L6 P6 e26 => ?_)
 have N4_6 := O4.ne L6
 have N5_6 := O5.ne L6
 have O4 := O4.ext e26
 have O5 := O5.ext e26
 have O6 := P6
 have L6 := Nat.le_trans hB.size L6
 have hB := ethen hB e26
 refine ⟨_, _, _, (O4.a 0), ?_⟩
 obtain ⟨hp29, H⟩ := H
 obtain ⟨r27, hr28, H⟩ := callO H
 refine (laws_toInsS.con hp29 hr28 (R0_0.ext hB) hc0_0).mono ?_
 rintro _ w30 ⟨A32, c33, rfl, P7, e31⟩
 have N7_5 := P7.apart_old O5.lt
 have N7_6 := P7.apart_old O6.lt
 have O4 := O4.ext e31
 have O5 := O5.ext e31
 have O6 := O6.ext e31
 have O7 := P7.mono hB.size
 have hB := ethen hB e31
 refine ⟨A32, r27.length, c33, rfl, ?_⟩
 refine stB O6 0 #[(sv A32 r27.length c33), (sv none 0 0), (sv none 0 0), (iv 0), (iv 0)] (fun w34 P6 e35 => ?_)
 have O4_ := O4.chg e35 N4_6
 have O5_ := O5.chg e35 N5_6
 have O7_ := O7.chg e35 N7_6
 have O4 := O4_
 have O5 := O5_
 have hB := echg hB e35 L6
 have O6 := P6
 refine ⟨_, _, _, (O4.a 1), ?_⟩
 obtain ⟨hp38, H⟩ := H
 obtain ⟨r36, hr37, H⟩ := callO H
 refine (laws_toWarpS.con hp38 hr37 (R0_1.ext hB) hc0_1).mono ?_
 rintro _ w39 ⟨A41, c42, F43, rfl, P8, e40⟩
 have N8_5 := P8.new_disbox O5 (Nat.le_refl _)
 have N8_6 := P8.new_disbox O6 (Nat.le_refl _)
 have O4 := O4.ext e40
 have O5 := O5.ext e40
 have O6 := O6.ext e40
 have O7 := O7_.ext e40
 have O8 := P8.mono hB.size
 have hB := ethen hB e40
 refine ⟨A41, r36.length, c42, rfl, ?_⟩
 refine stB O6 1 #[(sv A32 r27.length c33), (sv A41 r36.length c42), (sv none 0 0), (iv 0), (iv 0)] (fun w44 P6 e45 => ?_)
 have O4_ := O4.chg e45 N4_6
 have O5_ := O5.chg e45 N5_6
 have O7_ := O7.chg e45 N7_6
 have O8_ := O8.chg e45 N8_6
 have O4 := O4_
 have O5 := O5_
 have O8 := O8_
 have hB := echg hB e45 L6
 have O6 := P6
 refine ⟨_, _, _, (O4.a 2), ?_⟩
 obtain ⟨hp48, H⟩ := H
 obtain ⟨r46, hr47, H⟩ := callO H
 refine (laws_toIntS.con hp48 hr47 (R0_2.ext hB) hc0_2).mono ?_
 rintro _ w49 ⟨A51, c52, rfl, P9, e50⟩
 have N9_5 := P9.apart_old O5.lt
 have N9_6 := P9.apart_old O6.lt
 have N8_9 := O8.dis_new P9 (Nat.le_refl _)
 have O4 := O4.ext e50
 have O5 := O5.ext e50
 have O6 := O6.ext e50
 have O7 := O7_.ext e50
 have O8 := O8.ext e50
 have O9 := P9.mono hB.size
 have hB := ethen hB e50
 refine ⟨A51, r46.length, c52, rfl, ?_⟩
 refine stB O6 2 #[(sv A32 r27.length c33), (sv A41 r36.length c42), (sv A51 r46.length c52), (iv 0), (iv 0)] (fun w53 P6 e54 => ?_)
 have O4_ := O4.chg e54 N4_6
 have O5_ := O5.chg e54 N5_6
 have O7_ := O7.chg e54 N7_6
 have O8_ := O8.chg e54 N8_6
 have O9_ := O9.chg e54 N9_6
 have O4 := O4_
 have O5 := O5_
 have O7 := O7_
 have O8 := O8_
 have O9 := O9_
 have hB := echg hB e54 L6
 have O6 := P6
 refine ⟨_, (O4.a 3), ?_⟩
 refine stB O6 3 #[(sv A32 r27.length c33), (sv A41 r36.length c42), (sv A51 r46.length c52), (iv s0.Waiting), (iv 0)] (fun w55 P6 e56 => ?_)
 have O4_ := O4.chg e56 N4_6
 have O5_ := O5.chg e56 N5_6
 have O7_ := O7.chg e56 N7_6
 have O8_ := O8.chg e56 N8_6
 have O9_ := O9.chg e56 N9_6
 have O4 := O4_
 have O7 := O7_
 have O8 := O8_
 have O9 := O9_
 have hB := echg hB e56 L6
 have O6 := P6
 refine ⟨_, (O4.a 4), ?_⟩
 refine stBlk O6 (o := 4) (cs' := #[(sv A32 r27.length c33), (sv A41 r36.length c42), (sv A51 r46.length c52), (iv s0.Waiting), (iv s0.Phase)]) rfl rfl (Nat.le_of_ble_eq_true rfl) rfl (fun w57 O6 e58 => ?_)
 have O5 := O5_.chg e58 N5_6
 have O7_ := O7.chg e58 N7_6
 have O8_ := O8.chg e58 N8_6
 have O9_ := O9.chg e58 N9_6
 have hB := echg hB e58 L6
 refine ⟨_, _, _, (O6.a 0), _, _, _, (O6.a 1), _, _, _, (O6.a 2), _, (O6.a 3), _, (O6.a 4), ?_⟩
 refine stBlk O5 (o := 0) (cs' := #[(sv A32 r27.length c33), (sv A41 r36.length c42), (sv A51 r46.length c52), (iv s0.Waiting), (iv s0.Phase)]) rfl rfl (Nat.le_of_ble_eq_true rfl) rfl (fun w59 O5 e60 => ?_)
 have O7 := O7_.chg e60 N7_5
 have O8 := O8_.chg e60 N8_5
 have O9 := O9_.chg e60 N9_5
 have hB := echg hB e60 L5
 refine ⟨_, _, _, (O5.a 0), _, _, _, (O5.a 1), _, _, _, (O5.a 2), _, (O5.a 3), _, (O5.a 4), ?_⟩
 cases hr.trans H.symm
 exact ⟨A32, c33, A41, c42, F43, A51, c52, rfl, O7, O8, O9, N8_9, hB⟩
def laws_eqFrame.vc (x0_0 x0_1 x0_2 x1_0 x1_1 x1_2 : Int) (w : World) (K : VK) : Prop :=
  newK w (.cells #[(iv x0_0), (iv x0_1), (iv x0_2)] 91) fun g21 w22 => newK w22 (.cells #[(iv x1_0), (iv x1_1), (iv x1_2)] 91) fun g23 w24 => ldI w24 (((bx g21).add 0).add 0) fun n25 => ldI w24 (((bx g23).add 0).add 0) fun n26 => bcase (n25 != n26) (K (.bool false) w24) (ldI w24 (((bx g21).add 1).add 0) fun n27 => ldI w24 (((bx g23).add 1).add 0) fun n28 => bcase (n27 != n28) (K (.bool false) w24) (ldI w24 (((bx g21).add 2).add 0) fun n29 => ldI w24 (((bx g23).add 2).add 0) fun n30 => bcase (n29 != n30) (K (.bool false) w24) (K (.bool true) w24)))

def laws_eqFrame.ann : Ann := (.seq .l (.seq (.seq .l (.two (.seq .l .l) .l)) (.seq (.seq .l (.two (.seq .l .l) .l)) (.seq (.seq .l (.two (.seq .l .l) .l)) (.seq .l .l)))))

theorem laws_eqFrame.con {s0 s1 : D.Frame} {r : Bool} {w : World} (hr : r = M.laws_eqFrame s0 s1)  :
    Cl 197 #[(.agg #[(iv s0.Pc), (iv s0.Stop), (iv s0.Mask)]), (.agg #[(iv s1.Pc), (iv s1.Stop), (iv s1.Mask)])] w (fun v_ w_ => v_ = (.bool r) ∧ Ext w w_) := by
 have H := wp.laws_eqFrame.math s0 s1
 refine begK mixed Tryz.f197 ann (vc s0.Pc s0.Stop s0.Mask s1.Pc s1.Stop s1.Mask) ?_
 unfold vc
 unfold wp.laws_eqFrame at H
 refine newBlk (fun g1_ w21 L1 O1 e22 => ?_)
 refine newBlk (fun g2_ w23 L2 O2 e24 => ?_)
 have O1 := O1.ext e24
 have hB := ethen (ethen (Ext.refl w) e22) e24
 refine ⟨_, (O1.a 0), _, (O2.a 0), ?_⟩
 refine brc H (fun h H => ?_) fun h H => ?_
 ·cases hr.trans H.symm
  exact ⟨rfl, hB⟩
 refine ⟨_, (O1.a 1), _, (O2.a 1), ?_⟩
 refine brc H (fun h H => ?_) fun h H => ?_
 ·cases hr.trans H.symm
  exact ⟨rfl, hB⟩
 refine ⟨_, (O1.a 2), _, (O2.a 2), ?_⟩
 refine brc H (fun h H => ?_) fun h H => ?_
 ·cases hr.trans H.symm
  exact ⟨rfl, hB⟩
 cases hr.trans H.symm
 exact ⟨rfl, hB⟩
def laws_eqFrameS.vc (A0 : OA) (n0 c0 : Nat) (A1 : OA) (n1 c1 : Nat) (w : World) (K : VK) : Prop :=
  bcase (((n0 : Nat) : Int) != ((n1 : Nat) : Int)) (K (.bool false) w) (LoopT (σ := Int × Unit) (fun z21 w22 next23 => bcase (decide (z21.1 < ((n0 : Nat) : Int))) ((∃ M24 : Nat → Prop, (idx z21.1 n0 A0 fun a25 => ldIM M24 w22 (a25.add ((z21.1.toNat) * 3)) 0 fun n26 => ldIM M24 w22 (a25.add ((z21.1.toNat) * 3)) 1 fun n27 => ldIM M24 w22 (a25.add ((z21.1.toNat) * 3)) 2 fun n28 => (idx z21.1 n1 A1 fun a29 => ldIM M24 w22 (a29.add ((z21.1.toNat) * 3)) 0 fun n30 => ldIM M24 w22 (a29.add ((z21.1.toNat) * 3)) 1 fun n31 => ldIM M24 w22 (a29.add ((z21.1.toNat) * 3)) 2 fun n32 => Cl 197 #[(.agg #[(iv n26), (iv n27), (iv n28)]), (.agg #[(iv n30), (iv n31), (iv n32)])] w22.drew fun v33 w34 => (∃ (b35 : Bool), v33 = (.bool b35) ∧ SameBut M24 w22 w34 ∧ bcase (!b35) (K (.bool false) w34) (next23 ((wrap .i64 (z21.1 + 1)), ()) w34)))))) (K (.bool true) w22)) (0, ()) w)

def laws_eqFrameS.ann : Ann := (.seq .l (.seq (.seq .l (.two (.seq .l .l) .l)) (.seq (.seq .l (.one (.loop [(5, .int .i64)] (.seq (.seq .l (.two .l .l)) (.seq (.one (.seq .l (.two (.seq .l .l) .l))) .l))))) (.seq .l .l))))

theorem laws_eqFrameS.con {xs0 xs1 : List D.Frame} {A0 A1 : OA} {c0 c1 : Nat} {r : Bool} {w : World} (hp : M.laws_eqFrameS_pre xs0 xs1) (hr : r = M.laws_eqFrameS xs0 xs1) (R0 : Row el91 w A0 xs0) (hc0 : xs0.length ≤ c0) (R1 : Row el91 w A1 xs1) (hc1 : xs1.length ≤ c1) :
    Cl 159 #[(sv A0 xs0.length c0), (sv A1 xs1.length c1)] w (fun v_ w_ => v_ = (.bool r) ∧ Ext w w_) := by
 have H := wp.laws_eqFrameS.math xs0 xs1 hp
 have hB := Ext.refl w
 refine begK mixed Tryz.f159 ann (vc A0 xs0.length c0 A1 xs1.length c1) ?_
 unfold vc
 unfold wp.laws_eqFrameS at H
 refine brc H (fun h H => ?_) fun h H => ?_
 ·cases hr.trans H.symm
  exact ⟨rfl, hB⟩
 obtain ⟨J23, ⟨m50, hJ49⟩, hS24⟩ := H
 refine ⟨fun m_ z_ w_ => ∃ (i21 : Int), z_ = (i21, ()) ∧ J23 m_ (i21, ()) ∧ Ext w w_, ⟨m50, 0, rfl, hJ49, hB⟩, ?_⟩
 rintro m22 _ w26 ⟨i21, rfl, hJ51, hB⟩
 have H := hS24 m22 _ hJ51
 clear hS24 hJ51
 try dsimp only at H ⊢
 refine brc H (fun h H => ?_) fun h H => ?_
 ·refine ⟨(fun _ => False), ?_⟩
  obtain ⟨⟨h0_31, h1_32⟩, H⟩ := H
  obtain ⟨a29, ha30, hat28⟩ := Row.at (R0.ext hB) h0_31 h1_32
  refine ⟨h0_31, h1_32, a29, ha30, _, ⟨(fun h_ => h_), (hat28 0 _ rfl)⟩, _, ⟨(fun h_ => h_), (hat28 1 _ rfl)⟩, _, ⟨(fun h_ => h_), (hat28 2 _ rfl)⟩, ?_⟩
  obtain ⟨⟨h0_36, h1_37⟩, H⟩ := H
  obtain ⟨a34, ha35, hat33⟩ := Row.at (R1.ext hB) h0_36 h1_37
  refine ⟨h0_36, h1_37, a34, ha35, _, ⟨(fun h_ => h_), (hat33 0 _ rfl)⟩, _, ⟨(fun h_ => h_), (hat33 1 _ rfl)⟩, _, ⟨(fun h_ => h_), (hat33 2 _ rfl)⟩, ?_⟩
  have hB := ethen hB (Ext.drew _)
  have hS27 := (Chg.refl (fun _ => False) w26).then (Ext.drew _)
  obtain ⟨r38, hr39, H⟩ := callO H
  refine (laws_eqFrame.con hr39 ).mono ?_
  rintro _ w41 ⟨rfl, e42⟩
  have hB := ethen hB e42
  have hS27 := hS27.then e42
  refine ⟨r38, rfl, sameBut_chg hS27, ?_⟩
  refine brc H (fun h H => ?_) fun h H => ?_
  ·cases hr.trans H.symm
   exact ⟨rfl, hB⟩
  obtain ⟨m43, hm44, hJ45⟩ := H
  exact ⟨m43, hm44, _, rfl, hJ45, hB⟩
 cases hr.trans H.symm
 exact ⟨rfl, hB⟩
def laws_eqWarp.vc (x0_0 : Int) (A0_1 : OA) (n0_1 c0_1 : Nat) (A0_2 : OA) (n0_2 c0_2 : Nat) (x1_0 : Int) (A1_1 : OA) (n1_1 c1_1 : Nat) (A1_2 : OA) (n1_2 c1_2 : Nat) (w : World) (K : VK) : Prop :=
  newK w (.cells #[(iv x0_0), (sv A0_1 n0_1 c0_1), (sv A0_2 n0_2 c0_2)] 52) fun g21 w22 => newK w22 (.cells #[(iv x1_0), (sv A1_1 n1_1 c1_1), (sv A1_2 n1_2 c1_2)] 52) fun g23 w24 => ldI w24 (((bx g21).add 0).add 0) fun n25 => ldI w24 (((bx g23).add 0).add 0) fun n26 => bcase (n25 != n26) (K (.bool false) w24) (ldS w24 (((bx g21).add 1).add 0) fun A27 n28 c29 => ldS w24 (((bx g23).add 1).add 0) fun A30 n31 c32 => Cl 159 #[(sv A27 n28 c29), (sv A30 n31 c32)] w24 fun v33 w34 => (∃ (b35 : Bool), v33 = (.bool b35) ∧ bcase (!b35) (K (.bool false) w34) (ldS w34 (((bx g21).add 2).add 0) fun A36 n37 c38 => ldS w34 (((bx g23).add 2).add 0) fun A39 n40 c41 => Cl 54 #[(sv A36 n37 c38), (sv A39 n40 c41)] w34 fun v42 w43 => (∃ (b44 : Bool), v42 = (.bool b44) ∧ bcase (!b44) (K (.bool false) w43) (K (.bool true) w43)))))

def laws_eqWarp.ann : Ann := (.seq .l (.seq (.seq .l (.two (.seq .l .l) .l)) (.seq (.seq .l (.two (.seq .l .l) .l)) (.seq (.seq .l (.two (.seq .l .l) .l)) (.seq .l .l)))))

theorem laws_eqWarp.con {s0 s1 : D.Warp} {A0_1 A0_2 A1_1 A1_2 : OA} {c0_1 c0_2 c1_1 c1_2 : Nat} {r : Bool} {w : World} (hp : M.laws_eqWarp_pre s0 s1) (hr : r = M.laws_eqWarp s0 s1) (R0_1 : Row el91 w A0_1 s0.Frames) (hc0_1 : s0.Frames.length ≤ c0_1) (R0_2 : Row el3 w A0_2 s0.Regs) (hc0_2 : s0.Regs.length ≤ c0_2) (R1_1 : Row el91 w A1_1 s1.Frames) (hc1_1 : s1.Frames.length ≤ c1_1) (R1_2 : Row el3 w A1_2 s1.Regs) (hc1_2 : s1.Regs.length ≤ c1_2) :
    Cl 113 #[(.agg (wC A0_1 c0_1 A0_2 c0_2 s0)), (.agg (wC A1_1 c1_1 A1_2 c1_2 s1))] w (fun v_ w_ => v_ = (.bool r) ∧ Ext w w_) := by
 have H := wp.laws_eqWarp.math s0 s1 hp
 refine begK mixed Tryz.f113 ann (vc s0.Number A0_1 s0.Frames.length c0_1 A0_2 s0.Regs.length c0_2 s1.Number A1_1 s1.Frames.length c1_1 A1_2 s1.Regs.length c1_2) ?_
 unfold vc
 unfold wp.laws_eqWarp at H
 refine newBlk (fun g5_ w21 L5 O5 e22 => ?_)
 refine newBlk (fun g6_ w23 L6 O6 e24 => ?_)
 have O5 := O5.ext e24
 have hB := ethen (ethen (Ext.refl w) e22) e24
 refine ⟨_, (O5.a 0), _, (O6.a 0), ?_⟩
 refine brc H (fun h H => ?_) fun h H => ?_
 ·cases hr.trans H.symm
  exact ⟨rfl, hB⟩
 refine ⟨_, _, _, (O5.a 1), _, _, _, (O6.a 1), ?_⟩
 obtain ⟨hp27, H⟩ := H
 obtain ⟨r25, hr26, H⟩ := callO H
 refine (laws_eqFrameS.con hp27 hr26 (R0_1.ext hB) hc0_1 (R1_1.ext hB) hc1_1).mono ?_
 rintro _ w28 ⟨rfl, e29⟩
 have O5 := O5.ext e29
 have O6 := O6.ext e29
 have hB := ethen hB e29
 refine ⟨r25, rfl, ?_⟩
 refine brc H (fun h H => ?_) fun h H => ?_
 ·cases hr.trans H.symm
  exact ⟨rfl, hB⟩
 refine ⟨_, _, _, (O5.a 2), _, _, _, (O6.a 2), ?_⟩
 obtain ⟨hp32, H⟩ := H
 obtain ⟨r30, hr31, H⟩ := callO H
 refine (laws_eqIntS.con hp32 hr31 (R0_2.ext hB) hc0_2 (R1_2.ext hB) hc1_2).mono ?_
 rintro _ w33 ⟨rfl, e34⟩
 have hB := ethen hB e34
 refine ⟨r30, rfl, ?_⟩
 refine brc H (fun h H => ?_) fun h H => ?_
 ·cases hr.trans H.symm
  exact ⟨rfl, hB⟩
 cases hr.trans H.symm
 exact ⟨rfl, hB⟩
def laws_eqWarpS.vc (A0 : OA) (n0 c0 : Nat) (A1 : OA) (n1 c1 : Nat) (w : World) (K : VK) : Prop :=
  bcase (((n0 : Nat) : Int) != ((n1 : Nat) : Int)) (K (.bool false) w) (LoopT (σ := Int × Unit) (fun z21 w22 next23 => bcase (decide (z21.1 < ((n0 : Nat) : Int))) ((∃ M24 : Nat → Prop, (idx z21.1 n0 A0 fun a25 => ldIM M24 w22 (a25.add ((z21.1.toNat) * 3)) 0 fun n26 => ldSM M24 w22 (a25.add ((z21.1.toNat) * 3)) 1 fun A27 n28 c29 => ldSM M24 w22 (a25.add ((z21.1.toNat) * 3)) 2 fun A30 n31 c32 => (idx z21.1 n1 A1 fun a33 => ldIM M24 w22 (a33.add ((z21.1.toNat) * 3)) 0 fun n34 => ldSM M24 w22 (a33.add ((z21.1.toNat) * 3)) 1 fun A35 n36 c37 => ldSM M24 w22 (a33.add ((z21.1.toNat) * 3)) 2 fun A38 n39 c40 => Cl 113 #[(.agg #[(iv n26), (sv A27 n28 c29), (sv A30 n31 c32)]), (.agg #[(iv n34), (sv A35 n36 c37), (sv A38 n39 c40)])] w22.drew fun v41 w42 => (∃ (b43 : Bool), v41 = (.bool b43) ∧ SameBut M24 w22 w42 ∧ bcase (!b43) (K (.bool false) w42) (next23 ((wrap .i64 (z21.1 + 1)), ()) w42)))))) (K (.bool true) w22)) (0, ()) w)

def laws_eqWarpS.ann : Ann := (.seq .l (.seq (.seq .l (.two (.seq .l .l) .l)) (.seq (.seq .l (.one (.loop [(5, .int .i64)] (.seq (.seq .l (.two .l .l)) (.seq (.one (.seq .l (.two (.seq .l .l) .l))) .l))))) (.seq .l .l))))

theorem laws_eqWarpS.con {xs0 xs1 : List D.Warp} {A0 A1 : OA} {c0 c1 : Nat} {r : Bool} {w : World} (hp : M.laws_eqWarpS_pre xs0 xs1) (hr : r = M.laws_eqWarpS xs0 xs1) (R0 : RowW 52 el91 el3 w A0 xs0) (hc0 : xs0.length ≤ c0) (R1 : RowW 52 el91 el3 w A1 xs1) (hc1 : xs1.length ≤ c1) :
    Cl 53 #[(sv A0 xs0.length c0), (sv A1 xs1.length c1)] w (fun v_ w_ => v_ = (.bool r) ∧ Ext w w_) := by
 have H := wp.laws_eqWarpS.math xs0 xs1 hp
 have hB := Ext.refl w
 refine begK mixed Tryz.f53 ann (vc A0 xs0.length c0 A1 xs1.length c1) ?_
 unfold vc
 unfold wp.laws_eqWarpS at H
 refine brc H (fun h H => ?_) fun h H => ?_
 ·cases hr.trans H.symm
  exact ⟨rfl, hB⟩
 obtain ⟨J23, ⟨m72, hJ71⟩, hS24⟩ := H
 refine ⟨fun m_ z_ w_ => ∃ (i21 : Int), z_ = (i21, ()) ∧ J23 m_ (i21, ()) ∧ Ext w w_, ⟨m72, 0, rfl, hJ71, hB⟩, ?_⟩
 rintro m22 _ w26 ⟨i21, rfl, hJ73, hB⟩
 have H := hS24 m22 _ hJ73
 clear hS24 hJ73
 try dsimp only at H ⊢
 refine brc H (fun h H => ?_) fun h H => ?_
 ·refine ⟨(fun _ => False), ?_⟩
  obtain ⟨⟨h0_31, h1_32⟩, H⟩ := H
  obtain ⟨a29, ha30, A36, c37, A38, c39, f33, f34, f35, R40, hle42, R41, hle43⟩ := RowW.at R0 h0_31 h1_32
  refine ⟨h0_31, h1_32, a29, ha30, _, ⟨(fun h_ => h_), (Ext.cell hB f33)⟩, _, _, _, ⟨(fun h_ => h_), (Ext.cell hB f34)⟩, _, _, _, ⟨(fun h_ => h_), (Ext.cell hB f35)⟩, ?_⟩
  obtain ⟨⟨h0_47, h1_48⟩, H⟩ := H
  obtain ⟨a45, ha46, A52, c53, A54, c55, f49, f50, f51, R56, hle58, R57, hle59⟩ := RowW.at R1 h0_47 h1_48
  refine ⟨h0_47, h1_48, a45, ha46, _, ⟨(fun h_ => h_), (Ext.cell hB f49)⟩, _, _, _, ⟨(fun h_ => h_), (Ext.cell hB f50)⟩, _, _, _, ⟨(fun h_ => h_), (Ext.cell hB f51)⟩, ?_⟩
  have hB := ethen hB (Ext.drew _)
  have hS27 := (Chg.refl (fun _ => False) w26).then (Ext.drew _)
  obtain ⟨hp62, H⟩ := H
  obtain ⟨r60, hr61, H⟩ := callO H
  refine (cllA (laws_eqWarp.con hp62 hr61 (R40.ext hB) hle42 (R41.ext hB) hle43 (R56.ext hB) hle58 (R57.ext hB) hle59)).mono ?_
  rintro _ w63 ⟨rfl, e64⟩
  have hB := ethen hB e64
  have hS27 := hS27.then e64
  refine ⟨r60, rfl, sameBut_chg hS27, ?_⟩
  refine brc H (fun h H => ?_) fun h H => ?_
  ·cases hr.trans H.symm
   exact ⟨rfl, hB⟩
  obtain ⟨m65, hm66, hJ67⟩ := H
  exact ⟨m65, hm66, _, rfl, hJ67, hB⟩
 cases hr.trans H.symm
 exact ⟨rfl, hB⟩
def laws_eqBlock.vc (A0_0 : OA) (n0_0 c0_0 : Nat) (A0_1 : OA) (n0_1 c0_1 : Nat) (A0_2 : OA) (n0_2 c0_2 : Nat) (x0_3 x0_4 : Int) (A1_0 : OA) (n1_0 c1_0 : Nat) (A1_1 : OA) (n1_1 c1_1 : Nat) (A1_2 : OA) (n1_2 c1_2 : Nat) (x1_3 x1_4 : Int) (w : World) (K : VK) : Prop :=
  newK w (.cells (vB A0_0 n0_0 c0_0 A0_1 n0_1 c0_1 A0_2 n0_2 c0_2 x0_3 x0_4) 33) fun g21 w22 => newK w22 (.cells (vB A1_0 n1_0 c1_0 A1_1 n1_1 c1_1 A1_2 n1_2 c1_2 x1_3 x1_4) 33) fun g23 w24 => ldS w24 (((bx g21).add 0).add 0) fun A25 n26 c27 => ldS w24 (((bx g23).add 0).add 0) fun A28 n29 c30 => Cl 52 #[(sv A25 n26 c27), (sv A28 n29 c30)] w24 fun v31 w32 => (∃ (b33 : Bool), v31 = (.bool b33) ∧ bcase (!b33) (K (.bool false) w32) (ldS w32 (((bx g21).add 1).add 0) fun A34 n35 c36 => ldS w32 (((bx g23).add 1).add 0) fun A37 n38 c39 => Cl 53 #[(sv A34 n35 c36), (sv A37 n38 c39)] w32 fun v40 w41 => (∃ (b42 : Bool), v40 = (.bool b42) ∧ bcase (!b42) (K (.bool false) w41) (ldS w41 (((bx g21).add 2).add 0) fun A43 n44 c45 => ldS w41 (((bx g23).add 2).add 0) fun A46 n47 c48 => Cl 54 #[(sv A43 n44 c45), (sv A46 n47 c48)] w41 fun v49 w50 => (∃ (b51 : Bool), v49 = (.bool b51) ∧ bcase (!b51) (K (.bool false) w50) (ldI w50 (((bx g21).add 3).add 0) fun n52 => ldI w50 (((bx g23).add 3).add 0) fun n53 => bcase (n52 != n53) (K (.bool false) w50) (ldI w50 (((bx g21).add 4).add 0) fun n54 => ldI w50 (((bx g23).add 4).add 0) fun n55 => bcase (n54 != n55) (K (.bool false) w50) (K (.bool true) w50))))))))

def laws_eqBlock.ann : Ann := (.seq .l (.seq (.seq .l (.two (.seq .l .l) .l)) (.seq (.seq .l (.two (.seq .l .l) .l)) (.seq (.seq .l (.two (.seq .l .l) .l)) (.seq (.seq .l (.two (.seq .l .l) .l)) (.seq (.seq .l (.two (.seq .l .l) .l)) (.seq .l .l)))))))

theorem laws_eqBlock.con {s0 s1 : D.Block} {A0_0 A0_1 A0_2 A1_0 A1_1 A1_2 : OA} {c0_0 c0_1 c0_2 c1_0 c1_1 c1_2 : Nat} {r : Bool} {w : World} (hp : M.laws_eqBlock_pre s0 s1) (hr : r = M.laws_eqBlock s0 s1) (R0_0 : Row el84 w A0_0 s0.Code) (hc0_0 : s0.Code.length ≤ c0_0) (R0_1 : RowW 52 el91 el3 w A0_1 s0.Warps) (hc0_1 : s0.Warps.length ≤ c0_1) (R0_2 : Row el3 w A0_2 s0.Memory) (hc0_2 : s0.Memory.length ≤ c0_2) (R1_0 : Row el84 w A1_0 s1.Code) (hc1_0 : s1.Code.length ≤ c1_0) (R1_1 : RowW 52 el91 el3 w A1_1 s1.Warps) (hc1_1 : s1.Warps.length ≤ c1_1) (R1_2 : Row el3 w A1_2 s1.Memory) (hc1_2 : s1.Memory.length ≤ c1_2) :
    Cl 14 #[(.agg (bC A0_0 c0_0 A0_1 c0_1 A0_2 c0_2 s0)), (.agg (bC A1_0 c1_0 A1_1 c1_1 A1_2 c1_2 s1))] w (fun v_ w_ => v_ = (.bool r) ∧ Ext w w_) := by
 have H := wp.laws_eqBlock.math s0 s1 hp
 refine begK mixed Tryz.f14 ann (vc A0_0 s0.Code.length c0_0 A0_1 s0.Warps.length c0_1 A0_2 s0.Memory.length c0_2 s0.Waiting s0.Phase A1_0 s1.Code.length c1_0 A1_1 s1.Warps.length c1_1 A1_2 s1.Memory.length c1_2 s1.Waiting s1.Phase) ?_
 unfold vc
 unfold wp.laws_eqBlock at H
 refine newBlk (fun g7_ w21 L7 O7 e22 => ?_)
 refine newBlk (fun g8_ w23 L8 O8 e24 => ?_)
 have O7 := O7.ext e24
 have hB := ethen (ethen (Ext.refl w) e22) e24
 refine ⟨_, _, _, (O7.a 0), _, _, _, (O8.a 0), ?_⟩
 obtain ⟨hp27, H⟩ := H
 obtain ⟨r25, hr26, H⟩ := callO H
 refine (laws_eqInsS.con hp27 hr26 (R0_0.ext hB) hc0_0 (R1_0.ext hB) hc1_0).mono ?_
 rintro _ w28 ⟨rfl, e29⟩
 have O7 := O7.ext e29
 have O8 := O8.ext e29
 have hB := ethen hB e29
 refine ⟨r25, rfl, ?_⟩
 refine brc H (fun h H => ?_) fun h H => ?_
 ·cases hr.trans H.symm
  exact ⟨rfl, hB⟩
 refine ⟨_, _, _, (O7.a 1), _, _, _, (O8.a 1), ?_⟩
 obtain ⟨hp32, H⟩ := H
 obtain ⟨r30, hr31, H⟩ := callO H
 refine (laws_eqWarpS.con hp32 hr31 (R0_1.ext hB) hc0_1 (R1_1.ext hB) hc1_1).mono ?_
 rintro _ w33 ⟨rfl, e34⟩
 have O7 := O7.ext e34
 have O8 := O8.ext e34
 have hB := ethen hB e34
 refine ⟨r30, rfl, ?_⟩
 refine brc H (fun h H => ?_) fun h H => ?_
 ·cases hr.trans H.symm
  exact ⟨rfl, hB⟩
 refine ⟨_, _, _, (O7.a 2), _, _, _, (O8.a 2), ?_⟩
 obtain ⟨hp37, H⟩ := H
 obtain ⟨r35, hr36, H⟩ := callO H
 refine (laws_eqIntS.con hp37 hr36 (R0_2.ext hB) hc0_2 (R1_2.ext hB) hc1_2).mono ?_
 rintro _ w38 ⟨rfl, e39⟩
 have O7 := O7.ext e39
 have O8 := O8.ext e39
 have hB := ethen hB e39
 refine ⟨r35, rfl, ?_⟩
 refine brc H (fun h H => ?_) fun h H => ?_
 ·cases hr.trans H.symm
  exact ⟨rfl, hB⟩
 refine ⟨_, (O7.a 3), _, (O8.a 3), ?_⟩
 refine brc H (fun h H => ?_) fun h H => ?_
 ·cases hr.trans H.symm
  exact ⟨rfl, hB⟩
 refine ⟨_, (O7.a 4), _, (O8.a 4), ?_⟩
 refine brc H (fun h H => ?_) fun h H => ?_
 ·cases hr.trans H.symm
  exact ⟨rfl, hB⟩
 cases hr.trans H.symm
 exact ⟨rfl, hB⟩
def spec_WarpOk.vc (A0 : OA) (n0 c0 : Nat) (x1_0 : Int) (A1_1 : OA) (n1_1 c1_1 : Nat) (A1_2 : OA) (n1_2 c1_2 : Nat) (w : World) (K : VK) : Prop :=
  newK w (.cells #[(iv x1_0), (sv A1_1 n1_1 c1_1), (sv A1_2 n1_2 c1_2)] 52) fun g21 w22 => Cl 160 #[(sv A0 n0 c0)] w22 fun v24 w25 => (∃ (b26 : Bool), v24 = (.bool b26) ∧ bcase (!b26) (K (.bool false) w25) (ldI w25 (((bx g21).add 0).add 0) fun n27 => Cl 99 #[(iv n27), (iv 0), (iv 2)] w25 fun v28 w29 => (∃ (b30 : Bool), v28 = (.bool b30) ∧ bcase (!b30) (K (.bool false) w29) (ldS w29 (((bx g21).add 2).add 0) fun A31 n32 c33 => bcase (((n32 : Nat) : Int) != 32) (K (.bool false) w29) (ldS w29 (((bx g21).add 2).add 0) fun A34 n35 c36 => Cl 167 #[(sv A34 n35 c36)] w29 fun v37 w38 => (∃ (b39 : Bool), v37 = (.bool b39) ∧ bcase (!b39) (K (.bool false) w38) (ldS w38 (((bx g21).add 1).add 0) fun A40 n41 c42 => bcase (decide (((n41 : Nat) : Int) > 24)) (K (.bool false) w38) (LoopT (σ := Int × Unit) (fun z43 w44 next45 => ldS w44 (((bx g21).add 1).add 0) fun A46 n47 c48 => bcase (decide (z43.1 < ((n47 : Nat) : Int))) (ldS w44 (((bx g21).add 1).add 0) fun A49 n50 c51 => (idx z43.1 n50 A49 fun a52 => ldI w44 ((a52.add ((z43.1.toNat) * 3)).add 0) fun n53 => ldI w44 ((a52.add ((z43.1.toNat) * 3)).add 1) fun n54 => ldI w44 ((a52.add ((z43.1.toNat) * 3)).add 2) fun n55 => newK w44 (.cells #[(iv 0), (iv 0), (iv 0)] 91) fun g56 w57 => stCells (bx g56) [(iv n53), (iv n54), (iv n55)] 0 w57 fun w58 => ldI w58 (((bx g56).add 0).add 0) fun n60 => Cl 99 #[(iv n60), (iv 0), (iv ((n0 : Nat) : Int))] w58 fun v61 w62 => (∃ (b63 : Bool), v61 = (.bool b63) ∧ bcase (!b63) (K (.bool false) w62) (ldI w62 (((bx g56).add 1).add 0) fun n64 => Cl 99 #[(iv n64), (iv 0), (iv ((n0 : Nat) : Int))] w62 fun v65 w66 => (∃ (b67 : Bool), v65 = (.bool b67) ∧ bcase (!b67) (K (.bool false) w66) (ldI w66 (((bx g56).add 2).add 0) fun n68 => Cl 153 #[(iv n68)] w66 fun v69 w70 => (∃ (b71 : Bool), v69 = (.bool b71) ∧ bcase (!b71) (K (.bool false) w70) (ldI w70 (((bx g56).add 2).add 0) fun n72 => bcase (n72 == 0) (K (.bool false) w70) (bcase (z43.1 == 0) (ldI w70 (((bx g56).add 1).add 0) fun n73 => bcase (n73 != ((n0 : Nat) : Int)) (K (.bool false) w70) (ldI w70 (((bx g56).add 2).add 0) fun n74 => bcase (n74 != 255) (K (.bool false) w70) (ldS w70 (((bx g21).add 1).add 0) fun A75 n76 c77 => bcase (z43.1 == (wrap .i64 (((n76 : Nat) : Int) - 1))) (ldI w70 (((bx g56).add 0).add 0) fun n78 => ldI w70 (((bx g56).add 1).add 0) fun n79 => bcase (n78 == n79) (K (.bool false) w70) (ldI w70 (((bx g56).add 0).add 0) fun n80 => bcase (n80 == ((n0 : Nat) : Int)) (K (.bool false) w70) (next45 ((wrap .i64 (z43.1 + 1)), ()) w70))) (next45 ((wrap .i64 (z43.1 + 1)), ()) w70)))) (ldS w70 (((bx g21).add 1).add 0) fun A81 n82 c83 => bcase (z43.1 == (wrap .i64 (((n82 : Nat) : Int) - 1))) (ldI w70 (((bx g56).add 0).add 0) fun n84 => ldI w70 (((bx g56).add 1).add 0) fun n85 => bcase (n84 == n85) (K (.bool false) w70) (ldI w70 (((bx g56).add 0).add 0) fun n86 => bcase (n86 == ((n0 : Nat) : Int)) (K (.bool false) w70) (next45 ((wrap .i64 (z43.1 + 1)), ()) w70))) (next45 ((wrap .i64 (z43.1 + 1)), ()) w70))))))))))) (K (.bool true) w44)) (0, ()) w38))))))))

def spec_WarpOk.ann : Ann := (.seq .l (.seq (.seq .l (.two (.seq .l .l) .l)) (.seq (.seq .l (.one (.loop [(5, .int .i64)] (.seq (.seq .l (.two .l .l)) (.seq (.one (.seq .l (.seq (.seq .l (.two (.seq .l .l) .l)) (.seq .l (.two (.seq .l .l) .l))))) .l))))) (.seq .l .l))))

theorem spec_WarpOk.con {xs0 : List D.Ins} {A0 A1_1 A1_2 : OA} {c0 c1_1 c1_2 : Nat} {s1 : D.Warp} {r : Bool} {w : World} (hp : M.spec_WarpOk_pre xs0 s1) (hr : r = M.spec_WarpOk xs0 s1) (R0 : Row el84 w A0 xs0) (hc0 : xs0.length ≤ c0) (R1_1 : Row el91 w A1_1 s1.Frames) (hc1_1 : s1.Frames.length ≤ c1_1) (R1_2 : Row el3 w A1_2 s1.Regs) (hc1_2 : s1.Regs.length ≤ c1_2) :
    Cl 168 #[(sv A0 xs0.length c0), (.agg (wC A1_1 c1_1 A1_2 c1_2 s1))] w (fun v_ w_ => v_ = (.bool r) ∧ Ext w w_) := by
 have H := wp.spec_WarpOk.math xs0 s1 hp
 refine begK mixed Tryz.f168 ann (vc A0 xs0.length c0 s1.Number A1_1 s1.Frames.length c1_1 A1_2 s1.Regs.length c1_2) ?_
 unfold vc
 unfold wp.spec_WarpOk at H
 refine newBlk (fun g4_ w21 L4 O4 e22 => ?_)
 have hB := ethen (Ext.refl w) e22
 obtain ⟨hp25, H⟩ := H
 obtain ⟨r23, hr24, H⟩ := callO H
 refine (spec_ProgramOk.con hp25 hr24 (R0.ext hB) hc0).mono ?_
 rintro _ w26 ⟨rfl, e27⟩
 have O4 := O4.ext e27
 have hB := ethen hB e27
 refine ⟨r23, rfl, ?_⟩
 refine brc H (fun h H => ?_) fun h H => ?_
 ·cases hr.trans H.symm
  exact ⟨rfl, hB⟩
 refine ⟨_, (O4.a 0), ?_⟩
 obtain ⟨r28, hr29, H⟩ := callO H
 refine (spec_l01In.con hr29 ).mono ?_
 rintro _ w31 ⟨rfl, e32⟩
 have O4 := O4.ext e32
 have hB := ethen hB e32
 refine ⟨r28, rfl, ?_⟩
 refine brc H (fun h H => ?_) fun h H => ?_
 ·cases hr.trans H.symm
  exact ⟨rfl, hB⟩
 refine ⟨_, _, _, (O4.a 2), ?_⟩
 refine brc H (fun h H => ?_) fun h H => ?_
 ·cases hr.trans H.symm
  exact ⟨rfl, hB⟩
 refine ⟨_, _, _, (O4.a 2), ?_⟩
 obtain ⟨hp35, H⟩ := H
 obtain ⟨r33, hr34, H⟩ := callO H
 refine (spec_AreWords.con hp35 hr34 (R1_2.ext hB) hc1_2).mono ?_
 rintro _ w36 ⟨rfl, e37⟩
 have O4 := O4.ext e37
 have hB := ethen hB e37
 refine ⟨r33, rfl, ?_⟩
 refine brc H (fun h H => ?_) fun h H => ?_
 ·cases hr.trans H.symm
  exact ⟨rfl, hB⟩
 refine ⟨_, _, _, (O4.a 1), ?_⟩
 refine brc H (fun h H => ?_) fun h H => ?_
 ·cases hr.trans H.symm
  exact ⟨rfl, hB⟩
 obtain ⟨J40, ⟨m96, hJ95⟩, hS41⟩ := H
 refine ⟨fun m_ z_ w_ => ∃ (i38 : Int), z_ = (i38, ()) ∧ J40 m_ (i38, ()) ∧ Ext w w_ ∧ Blk w_ g4_ 52 (wC A1_1 c1_1 A1_2 c1_2 s1), ⟨m96, 0, rfl, hJ95, hB, O4⟩, ?_⟩
 rintro m39 _ w43 ⟨i38, rfl, hJ97, hB, O4⟩
 have H := hS41 m39 _ hJ97
 clear hS41 hJ97
 try dsimp only at H ⊢
 refine ⟨_, _, _, (O4.a 1), ?_⟩
 refine brc H (fun h H => ?_) fun h H => ?_
 ·refine ⟨_, _, _, (O4.a 1), ?_⟩
  obtain ⟨⟨h0_47, h1_48⟩, H⟩ := H
  obtain ⟨a45, ha46, hat44⟩ := Row.at (R1_1.ext hB) h0_47 h1_48
  refine ⟨h0_47, h1_48, a45, ha46, _, (hat44 0 _ rfl), _, (hat44 1 _ rfl), _, (hat44 2 _ rfl), ?_⟩
  refine newSt #[(iv ((rd s1.Frames i38).Pc)), (iv ((rd s1.Frames i38).Stop)), (iv ((rd s1.Frames i38).Mask))] (fun g5_ w51 L5 O5 e52 => ?_)
  refine ⟨_, (O5.a 0), ?_⟩
  obtain ⟨r53, hr54, H⟩ := callO H
  refine (spec_l01In.con hr54 ).mono ?_
  rintro _ w56 ⟨rfl, e57⟩
  have O4 := (O4.ext e52).ext e57
  have O5 := O5.ext e57
  have hB := ethen (ethen hB e52) e57
  refine ⟨r53, rfl, ?_⟩
  refine brc H (fun h H => ?_) fun h H => ?_
  ·cases hr.trans H.symm
   exact ⟨rfl, hB⟩
  refine ⟨_, (O5.a 1), ?_⟩
  obtain ⟨r58, hr59, H⟩ := callO H
  refine (spec_l01In.con hr59 ).mono ?_
  rintro _ w61 ⟨rfl, e62⟩
  have O4 := O4.ext e62
  have O5 := O5.ext e62
  have hB := ethen hB e62
  refine ⟨r58, rfl, ?_⟩
  refine brc H (fun h H => ?_) fun h H => ?_
  ·cases hr.trans H.symm
   exact ⟨rfl, hB⟩
  refine ⟨_, (O5.a 2), ?_⟩
  obtain ⟨r63, hr64, H⟩ := callO H
  refine (spec_IsMask.con hr64 ).mono ?_
  rintro _ w66 ⟨rfl, e67⟩
  have O4 := O4.ext e67
  have O5 := O5.ext e67
  have hB := ethen hB e67
  refine ⟨r63, rfl, ?_⟩
  refine brc H (fun h H => ?_) fun h H => ?_
  ·cases hr.trans H.symm
   exact ⟨rfl, hB⟩
  refine ⟨_, (O5.a 2), ?_⟩
  refine brc H (fun h H => ?_) fun h H => ?_
  ·cases hr.trans H.symm
   exact ⟨rfl, hB⟩
  refine brc H (fun h H => ?_) fun h H => ?_
  ·refine ⟨_, (O5.a 1), ?_⟩
   refine brc H (fun h H => ?_) fun h H => ?_
   ·cases hr.trans H.symm
    exact ⟨rfl, hB⟩
   refine ⟨_, (O5.a 2), ?_⟩
   refine brc H (fun h H => ?_) fun h H => ?_
   ·cases hr.trans H.symm
    exact ⟨rfl, hB⟩
   refine ⟨_, _, _, (O4.a 1), ?_⟩
   refine brc H (fun h H => ?_) fun h H => ?_
   ·refine ⟨_, (O5.a 0), _, (O5.a 1), ?_⟩
    refine brc H (fun h H => ?_) fun h H => ?_
    ·cases hr.trans H.symm
     exact ⟨rfl, hB⟩
    refine ⟨_, (O5.a 0), ?_⟩
    refine brc H (fun h H => ?_) fun h H => ?_
    ·cases hr.trans H.symm
     exact ⟨rfl, hB⟩
    obtain ⟨m68, hm69, hJ70⟩ := H
    exact ⟨m68, hm69, _, rfl, hJ70, hB, O4⟩
   obtain ⟨m73, hm74, hJ75⟩ := H
   exact ⟨m73, hm74, _, rfl, hJ75, hB, O4⟩
  refine ⟨_, _, _, (O4.a 1), ?_⟩
  refine brc H (fun h H => ?_) fun h H => ?_
  ·refine ⟨_, (O5.a 0), _, (O5.a 1), ?_⟩
   refine brc H (fun h H => ?_) fun h H => ?_
   ·cases hr.trans H.symm
    exact ⟨rfl, hB⟩
   refine ⟨_, (O5.a 0), ?_⟩
   refine brc H (fun h H => ?_) fun h H => ?_
   ·cases hr.trans H.symm
    exact ⟨rfl, hB⟩
   obtain ⟨m79, hm80, hJ81⟩ := H
   exact ⟨m79, hm80, _, rfl, hJ81, hB, O4⟩
  obtain ⟨m84, hm85, hJ86⟩ := H
  exact ⟨m84, hm85, _, rfl, hJ86, hB, O4⟩
 cases hr.trans H.symm
 exact ⟨rfl, hB⟩
def spec_BlockOk.vc (A0_0 : OA) (n0_0 c0_0 : Nat) (A0_1 : OA) (n0_1 c0_1 : Nat) (A0_2 : OA) (n0_2 c0_2 : Nat) (x0_3 x0_4 : Int) (w : World) (K : VK) : Prop :=
  newK w (.cells (vB A0_0 n0_0 c0_0 A0_1 n0_1 c0_1 A0_2 n0_2 c0_2 x0_3 x0_4) 33) fun g21 w22 => (∃ M24 : Nat → Prop, ldSM M24 w22 ((bx g21).add 0) 0 fun A25 n26 c27 => Cl 160 #[(sv A25 n26 c27)] w22.drew fun v28 w29 => (∃ (b30 : Bool), v28 = (.bool b30) ∧ SameBut M24 w22 w29 ∧ bcase (!b30) (K (.bool false) w29) (ldSM M24 w22 ((bx g21).add 1) 0 fun A31 n32 c33 => Cl 99 #[(iv ((n32 : Nat) : Int)), (iv 1), (iv 3)] w29 fun v34 w35 => (∃ (b36 : Bool), v34 = (.bool b36) ∧ SameBut M24 w22 w35 ∧ bcase (!b36) (K (.bool false) w35) (ldSM M24 w22 ((bx g21).add 2) 0 fun A37 n38 c39 => bcase (((n38 : Nat) : Int) != 32) (K (.bool false) w35) (ldSM M24 w22 ((bx g21).add 2) 0 fun A40 n41 c42 => Cl 167 #[(sv A40 n41 c42)] w35 fun v43 w44 => (∃ (b45 : Bool), v43 = (.bool b45) ∧ SameBut M24 w22 w44 ∧ bcase (!b45) (K (.bool false) w44) (ldIM M24 w22 ((bx g21).add 3) 0 fun n46 => ldSM M24 w22 ((bx g21).add 1) 0 fun A47 n48 c49 => ((0 : Int) ≤ ((n48 : Nat) : Int) ∧ Cl 99 #[(iv n46), (iv 0), (iv (wrap .i64 ((wrap .i64 (1 * 2 ^ (min (((n48 : Nat) : Int).toNat) (IntKind.bits .i64)))) - 2)))] w44 fun v50 w51 => (∃ (b52 : Bool), v50 = (.bool b52) ∧ SameBut M24 w22 w51 ∧ bcase (!b52) (K (.bool false) w51) (ldIM M24 w22 ((bx g21).add 4) 0 fun n53 => Cl 99 #[(iv n53), (iv 0), (iv 100000)] w51 fun v54 w55 => (∃ (b56 : Bool), v54 = (.bool b56) ∧ SameBut M24 w22 w55 ∧ bcase (!b56) (K (.bool false) w55) (LoopT (σ := Int × Unit) (fun z57 w58 next59 => ldS w58 (((bx g21).add 1).add 0) fun A60 n61 c62 => bcase (decide (z57.1 < ((n61 : Nat) : Int))) ((∃ M63 : Nat → Prop, ldSM M63 w58 ((bx g21).add 0) 0 fun A64 n65 c66 => ldSM M63 w58 ((bx g21).add 1) 0 fun A67 n68 c69 => (idx z57.1 n68 A67 fun a70 => ldIM M63 w58 (a70.add ((z57.1.toNat) * 3)) 0 fun n71 => ldSM M63 w58 (a70.add ((z57.1.toNat) * 3)) 1 fun A72 n73 c74 => ldSM M63 w58 (a70.add ((z57.1.toNat) * 3)) 2 fun A75 n76 c77 => Cl 168 #[(sv A64 n65 c66), (.agg #[(iv n71), (sv A72 n73 c74), (sv A75 n76 c77)])] w58.drew fun v78 w79 => (∃ (b80 : Bool), v78 = (.bool b80) ∧ SameBut M63 w58 w79 ∧ bcase (!b80) (K (.bool false) w79) (ldSM M63 w58 ((bx g21).add 1) 0 fun A81 n82 c83 => (idx z57.1 n82 A81 fun a84 => ldIM M63 w58 ((a84.add ((z57.1.toNat) * 3)).add 0) 0 fun n85 => bcase (n85 != z57.1) (K (.bool false) w79) (next59 ((wrap .i64 (z57.1 + 1)), ()) w79))))))) (K (.bool true) w58)) (0, ()) w55)))))))))))))

def spec_BlockOk.ann : Ann := (.seq .l (.seq (.seq .l (.two (.seq .l .l) .l)) (.seq (.seq .l (.one (.loop [(3, .int .i64)] (.seq (.seq .l (.two .l .l)) (.seq (.one (.seq .l (.two (.seq .l .l) .l))) .l))))) (.seq .l .l))))

theorem spec_BlockOk.con {s0 : D.Block} {A0_0 A0_1 A0_2 : OA} {c0_0 c0_1 c0_2 : Nat} {r : Bool} {w : World} (hp : M.spec_BlockOk_pre s0) (hr : r = M.spec_BlockOk s0) (R0_0 : Row el84 w A0_0 s0.Code) (hc0_0 : s0.Code.length ≤ c0_0) (R0_1 : RowW 52 el91 el3 w A0_1 s0.Warps) (hc0_1 : s0.Warps.length ≤ c0_1) (R0_2 : Row el3 w A0_2 s0.Memory) (hc0_2 : s0.Memory.length ≤ c0_2) :
    Cl 123 #[(.agg (bC A0_0 c0_0 A0_1 c0_1 A0_2 c0_2 s0))] w (fun v_ w_ => v_ = (.bool r) ∧ Ext w w_) := by
 have H := wp.spec_BlockOk.math s0 hp
 refine begK mixed Tryz.f123 ann (vc A0_0 s0.Code.length c0_0 A0_1 s0.Warps.length c0_1 A0_2 s0.Memory.length c0_2 s0.Waiting s0.Phase) ?_
 unfold vc
 unfold wp.spec_BlockOk at H
 refine newBlk (fun g4_ w21 L4 O4 e22 => ?_)
 have hB := ethen (Ext.refl w) e22
 refine ⟨(fun _ => False), ?_⟩
 have hBz := hB
 have Z4 := O4
 refine ⟨_, _, _, noM (O4.a 0), ?_⟩
 have O4 := O4.ext (Ext.drew _)
 have hB := ethen hB (Ext.drew _)
 have hS23 := (Chg.refl (fun _ => False) w21).then (Ext.drew _)
 obtain ⟨hp31, H⟩ := H
 obtain ⟨r29, hr30, H⟩ := callO H
 refine (spec_ProgramOk.con hp31 hr30 (R0_0.ext hB) hc0_0).mono ?_
 rintro _ w32 ⟨rfl, e33⟩
 have O4 := O4.ext e33
 have hB := ethen hB e33
 have hS23 := hS23.then e33
 refine ⟨r29, rfl, sameBut_chg hS23, ?_⟩
 refine brc H (fun h H => ?_) fun h H => ?_
 ·cases hr.trans H.symm
  exact ⟨rfl, hB⟩
 refine ⟨_, _, _, ⟨(fun h_ => h_), (Z4.at 1 rfl rfl)⟩, ?_⟩
 obtain ⟨r34, hr35, H⟩ := callO H
 refine (spec_l01In.con hr35 ).mono ?_
 rintro _ w37 ⟨rfl, e38⟩
 have O4 := O4.ext e38
 have hB := ethen hB e38
 have hS23 := hS23.then e38
 refine ⟨r34, rfl, sameBut_chg hS23, ?_⟩
 refine brc H (fun h H => ?_) fun h H => ?_
 ·cases hr.trans H.symm
  exact ⟨rfl, hB⟩
 refine ⟨_, _, _, ⟨(fun h_ => h_), (Z4.at 2 rfl rfl)⟩, ?_⟩
 refine brc H (fun h H => ?_) fun h H => ?_
 ·cases hr.trans H.symm
  exact ⟨rfl, hB⟩
 refine ⟨_, _, _, ⟨(fun h_ => h_), (Z4.at 2 rfl rfl)⟩, ?_⟩
 obtain ⟨hp41, H⟩ := H
 obtain ⟨r39, hr40, H⟩ := callO H
 refine (spec_AreWords.con hp41 hr40 (R0_2.ext hB) hc0_2).mono ?_
 rintro _ w42 ⟨rfl, e43⟩
 have O4 := O4.ext e43
 have hB := ethen hB e43
 have hS23 := hS23.then e43
 refine ⟨r39, rfl, sameBut_chg hS23, ?_⟩
 refine brc H (fun h H => ?_) fun h H => ?_
 ·cases hr.trans H.symm
  exact ⟨rfl, hB⟩
 refine ⟨_, ⟨(fun h_ => h_), (Z4.at 3 rfl rfl)⟩, _, _, _, ⟨(fun h_ => h_), (Z4.at 1 rfl rfl)⟩, ?_⟩
 obtain ⟨hc44, H⟩ := H
 refine ⟨hc44, ?_⟩
 obtain ⟨r45, hr46, H⟩ := callO H
 refine (spec_l01In.con hr46 ).mono ?_
 rintro _ w48 ⟨rfl, e49⟩
 have O4 := O4.ext e49
 have hB := ethen hB e49
 have hS23 := hS23.then e49
 refine ⟨r45, rfl, sameBut_chg hS23, ?_⟩
 refine brc H (fun h H => ?_) fun h H => ?_
 ·cases hr.trans H.symm
  exact ⟨rfl, hB⟩
 refine ⟨_, ⟨(fun h_ => h_), (Z4.at 4 rfl rfl)⟩, ?_⟩
 obtain ⟨r50, hr51, H⟩ := callO H
 refine (spec_l01In.con hr51 ).mono ?_
 rintro _ w53 ⟨rfl, e54⟩
 have O4 := O4.ext e54
 have hB := ethen hB e54
 have hS23 := hS23.then e54
 refine ⟨r50, rfl, sameBut_chg hS23, ?_⟩
 refine brc H (fun h H => ?_) fun h H => ?_
 ·cases hr.trans H.symm
  exact ⟨rfl, hB⟩
 obtain ⟨J57, ⟨m128, hJ127⟩, hS58⟩ := H
 refine ⟨fun m_ z_ w_ => ∃ (i55 : Int), z_ = (i55, ()) ∧ J57 m_ (i55, ()) ∧ Ext w w_ ∧ Blk w_ g4_ 33 (bC A0_0 c0_0 A0_1 c0_1 A0_2 c0_2 s0), ⟨m128, 0, rfl, hJ127, hB, O4⟩, ?_⟩
 rintro m56 _ w60 ⟨i55, rfl, hJ129, hB, O4⟩
 have H := hS58 m56 _ hJ129
 clear hS58 hJ129
 try dsimp only at H ⊢
 refine ⟨_, _, _, (O4.a 1), ?_⟩
 refine brc H (fun h H => ?_) fun h H => ?_
 ·refine ⟨(fun _ => False), ?_⟩
  have hBz := hB
  have Z4 := O4
  refine ⟨_, _, _, noM (O4.a 0), _, _, _, noM (O4.a 1), ?_⟩
  obtain ⟨⟨h0_86, h1_87⟩, H⟩ := H
  obtain ⟨a84, ha85, A91, c92, A93, c94, f88, f89, f90, R95, hle97, R96, hle98⟩ := RowW.at R0_1 h0_86 h1_87
  refine ⟨h0_86, h1_87, a84, ha85, _, ⟨(fun h_ => h_), (Ext.cell hB f88)⟩, _, _, _, ⟨(fun h_ => h_), (Ext.cell hB f89)⟩, _, _, _, ⟨(fun h_ => h_), (Ext.cell hB f90)⟩, ?_⟩
  have O4 := O4.ext (Ext.drew _)
  have hB := ethen hB (Ext.drew _)
  have hS61 := (Chg.refl (fun _ => False) w60).then (Ext.drew _)
  obtain ⟨hp101, H⟩ := H
  obtain ⟨r99, hr100, H⟩ := callO H
  refine (cllA (spec_WarpOk.con hp101 hr100 (R0_0.ext hB) hc0_0 (R95.ext hB) hle97 (R96.ext hB) hle98)).mono ?_
  rintro _ w102 ⟨rfl, e103⟩
  have O4 := O4.ext e103
  have hB := ethen hB e103
  have hS61 := hS61.then e103
  refine ⟨r99, rfl, sameBut_chg hS61, ?_⟩
  refine brc H (fun h H => ?_) fun h H => ?_
  ·cases hr.trans H.symm
   exact ⟨rfl, hB⟩
  refine ⟨_, _, _, ⟨(fun h_ => h_), (Z4.at 1 rfl rfl)⟩, ?_⟩
  obtain ⟨⟨h0_107, h1_108⟩, H⟩ := H
  obtain ⟨a105, ha106, A112, c113, A114, c115, f109, f110, f111, R116, hle118, R117, hle119⟩ := RowW.at R0_1 h0_107 h1_108
  refine ⟨h0_107, h1_108, a105, ha106, _, ⟨(fun h_ => h_), (Ext.cell hBz f109)⟩, ?_⟩
  refine brc H (fun h H => ?_) fun h H => ?_
  ·cases hr.trans H.symm
   exact ⟨rfl, hB⟩
  obtain ⟨m120, hm121, hJ122⟩ := H
  exact ⟨m120, hm121, _, rfl, hJ122, hB, O4⟩
 cases hr.trans H.symm
 exact ⟨rfl, hB⟩
def spec_l30Ok.vc (A0_0 : OA) (n0_0 c0_0 : Nat) (A0_1 : OA) (n0_1 c0_1 : Nat) (A0_2 : OA) (n0_2 c0_2 : Nat) (x0_3 x0_4 x1 : Int) (w : World) (K : VK) : Prop :=
  newK w (.cells (vB A0_0 n0_0 c0_0 A0_1 n0_1 c0_1 A0_2 n0_2 c0_2 x0_3 x0_4) 33) fun g21 w22 => ldB w22 (bx g21) fun A23 n24 c25 A26 n27 c28 A29 n30 c31 n32 n33 => Cl 123 #[(.agg (vB A23 n24 c25 A26 n27 c28 A29 n30 c31 n32 n33))] w22 fun v34 w35 => (∃ (b36 : Bool), v34 = (.bool b36) ∧ bcase b36 (ldS w35 (((bx g21).add 1).add 0) fun A37 n38 c39 => Cl 99 #[(iv x1), (iv 0), (iv (wrap .i64 (((n38 : Nat) : Int) - 1)))] w35 fun v40 w41 => (∃ (b42 : Bool), v40 = (.bool b42) ∧ K (.bool b42) w41)) (K (.bool false) w35))

def spec_l30Ok.ann : Ann := (.seq .l (.seq .l .l))

theorem spec_l30Ok.con {s0 : D.Block} {A0_0 A0_1 A0_2 : OA} {c0_0 c0_1 c0_2 : Nat} {x1 : Int} {r : Bool} {w : World} (hp : M.spec_l30Ok_pre s0 x1) (hr : r = M.spec_l30Ok s0 x1) (R0_0 : Row el84 w A0_0 s0.Code) (hc0_0 : s0.Code.length ≤ c0_0) (R0_1 : RowW 52 el91 el3 w A0_1 s0.Warps) (hc0_1 : s0.Warps.length ≤ c0_1) (R0_2 : Row el3 w A0_2 s0.Memory) (hc0_2 : s0.Memory.length ≤ c0_2) :
    Cl 63 #[(.agg (bC A0_0 c0_0 A0_1 c0_1 A0_2 c0_2 s0)), (iv x1)] w (fun v_ w_ => v_ = (.bool r) ∧ Ext w w_) := by
 have H := wp.spec_l30Ok.math s0 x1 hp
 refine begK mixed Tryz.f63 ann (vc A0_0 s0.Code.length c0_0 A0_1 s0.Warps.length c0_1 A0_2 s0.Memory.length c0_2 s0.Waiting s0.Phase x1) ?_
 unfold vc
 unfold wp.spec_l30Ok at H
 refine newBlk (fun g4_ w21 L4 O4 e22 => ?_)
 have hB := ethen (Ext.refl w) e22
 refine ⟨_, _, _, (O4.a 0), _, _, _, (O4.a 1), _, _, _, (O4.a 2), _, (O4.a 3), _, (O4.a 4), ?_⟩
 obtain ⟨hp25, H⟩ := H
 obtain ⟨r23, hr24, H⟩ := callO H
 refine (spec_BlockOk.con hp25 hr24 (R0_0.ext hB) hc0_0 (R0_1.ext hB) hc0_1 (R0_2.ext hB) hc0_2).mono ?_
 rintro _ w26 ⟨rfl, e27⟩
 have O4 := O4.ext e27
 have hB := ethen hB e27
 refine ⟨r23, rfl, ?_⟩
 refine brc H (fun h H => ?_) fun h H => ?_
 ·refine ⟨_, _, _, (O4.a 1), ?_⟩
  obtain ⟨r28, hr29, H⟩ := callO H
  refine (spec_l01In.con hr29 ).mono ?_
  rintro _ w31 ⟨rfl, e32⟩
  have hB := ethen hB e32
  refine ⟨r28, rfl, ?_⟩
  cases hr.trans H.symm
  exact ⟨rfl, hB⟩
 cases hr.trans H.symm
 exact ⟨rfl, hB⟩
def impl_isWarpCount.vc (x0 : Int) (w : World) (K : VK) : Prop :=
  Cl 78 #[(iv x0), (iv 1), (iv 3)] w fun v21 w22 => (∃ (b23 : Bool), v21 = (.bool b23) ∧ K (.bool b23) w22)

def impl_isWarpCount.ann : Ann := (.seq .l (.seq .l .l))

theorem impl_isWarpCount.con {x0 : Int} {r : Bool} {w : World} (hr : r = M.impl_isWarpCount x0)  :
    Cl 76 #[(iv x0)] w (fun v_ w_ => v_ = (.bool r) ∧ Ext w w_) := by
 have H := wp.impl_isWarpCount.math x0
 refine begK mixed Tryz.f76 ann (vc x0) ?_
 unfold vc
 unfold wp.impl_isWarpCount at H
 obtain ⟨r21, hr22, H⟩ := callO H
 refine (impl_within.con hr22 ).mono ?_
 rintro _ w24 ⟨rfl, e25⟩
 have hB := ethen (Ext.refl w) e25
 refine ⟨r21, rfl, ?_⟩
 cases hr.trans H.symm
 exact ⟨rfl, hB⟩
def impl_isMemory.vc (A0 : OA) (n0 c0 : Nat) (w : World) (K : VK) : Prop :=
  bcase (((n0 : Nat) : Int) == 32) (Cl 136 #[(sv A0 n0 c0)] w fun v21 w22 => (∃ (b23 : Bool), v21 = (.bool b23) ∧ K (.bool b23) w22)) (K (.bool false) w)

def impl_isMemory.ann : Ann := (.seq .l (.seq .l .l))

theorem impl_isMemory.con {xs0 : List Int} {A0 : OA} {c0 : Nat} {r : Bool} {w : World} (hp : M.impl_isMemory_pre xs0) (hr : r = M.impl_isMemory xs0) (R0 : Row el3 w A0 xs0) (hc0 : xs0.length ≤ c0) :
    Cl 77 #[(sv A0 xs0.length c0)] w (fun v_ w_ => v_ = (.bool r) ∧ Ext w w_) := by
 have H := wp.impl_isMemory.math xs0 hp
 have hB := Ext.refl w
 refine begK mixed Tryz.f77 ann (vc A0 xs0.length c0) ?_
 unfold vc
 unfold wp.impl_isMemory at H
 refine brc H (fun h H => ?_) fun h H => ?_
 ·obtain ⟨hp23, H⟩ := H
  obtain ⟨r21, hr22, H⟩ := callO H
  refine (impl_AreWords.con hp23 hr22 (R0.ext hB) hc0).mono ?_
  rintro _ w24 ⟨rfl, e25⟩
  have hB := ethen hB e25
  refine ⟨r21, rfl, ?_⟩
  cases hr.trans H.symm
  exact ⟨rfl, hB⟩
 cases hr.trans H.symm
 exact ⟨rfl, hB⟩
def impl_areAllRegs.vc (A0 : OA) (n0 c0 : Nat) (w : World) (K : VK) : Prop :=
  K (.bool (((n0 : Nat) : Int) == 32)) w

def impl_areAllRegs.ann : Ann := (.seq .l (.seq .l .l))

theorem impl_areAllRegs.con {xs0 : List Int} {A0 : OA} {c0 : Nat} {r : Bool} {w : World} (hr : r = M.impl_areAllRegs xs0) (R0 : Row el3 w A0 xs0) (hc0 : xs0.length ≤ c0) :
    Cl 138 #[(sv A0 xs0.length c0)] w (fun v_ w_ => v_ = (.bool r) ∧ Ext w w_) := by
 have H := wp.impl_areAllRegs.math xs0
 have hB := Ext.refl w
 refine begK mixed Tryz.f138 ann (vc A0 xs0.length c0) ?_
 unfold vc
 unfold wp.impl_areAllRegs at H
 cases hr.trans H.symm
 exact ⟨rfl, hB⟩
def impl_areFrames.vc (A0 : OA) (n0 c0 : Nat) (x1 : Int) (w : World) (K : VK) : Prop :=
  LoopT (σ := Int × Unit) (fun z21 w22 next23 => bcase (decide (z21.1 < ((n0 : Nat) : Int))) ((idx z21.1 n0 A0 fun a24 => ldI w22 ((a24.add ((z21.1.toNat) * 3)).add 0) fun n25 => ldI w22 ((a24.add ((z21.1.toNat) * 3)).add 1) fun n26 => ldI w22 ((a24.add ((z21.1.toNat) * 3)).add 2) fun n27 => newK w22 (.cells #[(iv 0), (iv 0), (iv 0)] 91) fun g28 w29 => stCells (bx g28) [(iv n25), (iv n26), (iv n27)] 0 w29 fun w30 => ldI w30 (((bx g28).add 0).add 0) fun n31 => Cl 78 #[(iv n31), (iv 0), (iv x1)] w30 fun v32 w33 => (∃ (b34 : Bool), v32 = (.bool b34) ∧ bcase (!b34) (K (.bool false) w33) (ldI w33 (((bx g28).add 1).add 0) fun n35 => Cl 78 #[(iv n35), (iv 0), (iv x1)] w33 fun v36 w37 => (∃ (b38 : Bool), v36 = (.bool b38) ∧ bcase (!b38) (K (.bool false) w37) (ldI w37 (((bx g28).add 2).add 0) fun n39 => Cl 179 #[(iv n39)] w37 fun v40 w41 => (∃ (b42 : Bool), v40 = (.bool b42) ∧ bcase (!b42) (K (.bool false) w41) (ldI w41 (((bx g28).add 2).add 0) fun n43 => bcase (n43 == 0) (K (.bool false) w41) (next23 ((wrap .i64 (z21.1 + 1)), ()) w41))))))))) (bcase (((n0 : Nat) : Int) == 0) (K (.bool true) w22) ((idx (wrap .i64 (((n0 : Nat) : Int) - 1)) n0 A0 fun a44 => ldI w22 ((a44.add (((wrap .i64 (((n0 : Nat) : Int) - 1)).toNat) * 3)).add 0) fun n45 => ldI w22 ((a44.add (((wrap .i64 (((n0 : Nat) : Int) - 1)).toNat) * 3)).add 1) fun n46 => ldI w22 ((a44.add (((wrap .i64 (((n0 : Nat) : Int) - 1)).toNat) * 3)).add 2) fun n47 => newK w22 (.cells #[(iv 0), (iv 0), (iv 0)] 91) fun g48 w49 => stCells (bx g48) [(iv n45), (iv n46), (iv n47)] 0 w49 fun w50 => bcase (decide (((n0 : Nat) : Int) ≤ 24)) (ldI w50 (((bx g48).add 0).add 0) fun n51 => ldI w50 (((bx g48).add 1).add 0) fun n52 => bcase (n51 != n52) (ldI w50 (((bx g48).add 0).add 0) fun n53 => bcase (n53 != x1) ((idx 0 n0 A0 fun a54 => ldI w50 (((a54.add (((0 : Int).toNat) * 3)).add 1).add 0) fun n55 => bcase (n55 == x1) ((idx 0 n0 A0 fun a56 => ldI w50 (((a56.add (((0 : Int).toNat) * 3)).add 2).add 0) fun n57 => K (.bool (n57 == 255)) w50)) (K (.bool false) w50))) (K (.bool false) w50)) (K (.bool false) w50)) (K (.bool false) w50))))) (0, ()) w

def impl_areFrames.ann : Ann := (.seq .l (.seq (.seq .l (.one (.loop [(10, .int .i64)] (.seq .l (.seq (.two .l .l) (.seq (.one (.seq .l (.seq .l (.two (.seq .l .l) .l)))) .l)))))) (.seq (.seq .l (.two (.seq .l .l) .l)) (.seq .l (.seq .l .l)))))

theorem impl_areFrames.con {xs0 : List D.Frame} {A0 : OA} {c0 : Nat} {x1 : Int} {r : Bool} {w : World} (hp : M.impl_areFrames_pre xs0 x1) (hr : r = M.impl_areFrames xs0 x1) (R0 : Row el91 w A0 xs0) (hc0 : xs0.length ≤ c0) :
    Cl 139 #[(sv A0 xs0.length c0), (iv x1)] w (fun v_ w_ => v_ = (.bool r) ∧ Ext w w_) := by
 have H := wp.impl_areFrames.math xs0 x1 hp
 have hB := Ext.refl w
 refine begK mixed Tryz.f139 ann (vc A0 xs0.length c0 x1) ?_
 unfold vc
 unfold wp.impl_areFrames at H
 obtain ⟨J23, ⟨m85, hJ84⟩, hS24⟩ := H
 refine ⟨fun m_ z_ w_ => ∃ (i21 : Int), z_ = (i21, ()) ∧ J23 m_ (i21, ()) ∧ Ext w w_, ⟨m85, 0, rfl, hJ84, hB⟩, ?_⟩
 rintro m22 _ w26 ⟨i21, rfl, hJ86, hB⟩
 have H := hS24 m22 _ hJ86
 clear hS24 hJ86
 try dsimp only at H ⊢
 refine brc H (fun h H => ?_) fun h H => ?_
 ·obtain ⟨⟨h0_30, h1_31⟩, H⟩ := H
  obtain ⟨a28, ha29, hat27⟩ := Row.at (R0.ext hB) h0_30 h1_31
  refine ⟨h0_30, h1_31, a28, ha29, _, (hat27 0 _ rfl), _, (hat27 1 _ rfl), _, (hat27 2 _ rfl), ?_⟩
  refine newSt #[(iv ((rd xs0 i21).Pc)), (iv ((rd xs0 i21).Stop)), (iv ((rd xs0 i21).Mask))] (fun g2_ w34 L2 O2 e35 => ?_)
  refine ⟨_, (O2.a 0), ?_⟩
  obtain ⟨r36, hr37, H⟩ := callO H
  refine (impl_within.con hr37 ).mono ?_
  rintro _ w39 ⟨rfl, e40⟩
  have O2 := O2.ext e40
  have hB := ethen (ethen hB e35) e40
  refine ⟨r36, rfl, ?_⟩
  refine brc H (fun h H => ?_) fun h H => ?_
  ·cases hr.trans H.symm
   exact ⟨rfl, hB⟩
  refine ⟨_, (O2.a 1), ?_⟩
  obtain ⟨r41, hr42, H⟩ := callO H
  refine (impl_within.con hr42 ).mono ?_
  rintro _ w44 ⟨rfl, e45⟩
  have O2 := O2.ext e45
  have hB := ethen hB e45
  refine ⟨r41, rfl, ?_⟩
  refine brc H (fun h H => ?_) fun h H => ?_
  ·cases hr.trans H.symm
   exact ⟨rfl, hB⟩
  refine ⟨_, (O2.a 2), ?_⟩
  obtain ⟨r46, hr47, H⟩ := callO H
  refine (impl_IsMask.con hr47 ).mono ?_
  rintro _ w49 ⟨rfl, e50⟩
  have O2 := O2.ext e50
  have hB := ethen hB e50
  refine ⟨r46, rfl, ?_⟩
  refine brc H (fun h H => ?_) fun h H => ?_
  ·cases hr.trans H.symm
   exact ⟨rfl, hB⟩
  refine ⟨_, (O2.a 2), ?_⟩
  refine brc H (fun h H => ?_) fun h H => ?_
  ·cases hr.trans H.symm
   exact ⟨rfl, hB⟩
  obtain ⟨m51, hm52, hJ53⟩ := H
  exact ⟨m51, hm52, _, rfl, hJ53, hB⟩
 refine brc H (fun h H => ?_) fun h H => ?_
 ·cases hr.trans H.symm
  exact ⟨rfl, hB⟩
 obtain ⟨⟨h0_61, h1_62⟩, H⟩ := H
 obtain ⟨a59, ha60, hat58⟩ := Row.at (R0.ext hB) h0_61 h1_62
 refine ⟨h0_61, h1_62, a59, ha60, _, (hat58 0 _ rfl), _, (hat58 1 _ rfl), _, (hat58 2 _ rfl), ?_⟩
 refine newSt #[(iv ((rd xs0 (wrap .i64 ((xs0.length : Int) - 1))).Pc)), (iv ((rd xs0 (wrap .i64 ((xs0.length : Int) - 1))).Stop)), (iv ((rd xs0 (wrap .i64 ((xs0.length : Int) - 1))).Mask))] (fun g3_ w65 L3 O3 e66 => ?_)
 have hB := ethen hB e66
 refine brc H (fun h H => ?_) fun h H => ?_
 ·refine ⟨_, (O3.a 0), _, (O3.a 1), ?_⟩
  refine brc H (fun h H => ?_) fun h H => ?_
  ·refine ⟨_, (O3.a 0), ?_⟩
   refine brc H (fun h H => ?_) fun h H => ?_
   ·obtain ⟨⟨h0_70, h1_71⟩, H⟩ := H
    obtain ⟨a68, ha69, hat67⟩ := Row.at (R0.ext hB) h0_70 h1_71
    refine ⟨h0_70, h1_71, a68, ha69, _, (hat67 1 _ rfl), ?_⟩
    refine brc H (fun h H => ?_) fun h H => ?_
    ·obtain ⟨⟨h0_75, h1_76⟩, H⟩ := H
     obtain ⟨a73, ha74, hat72⟩ := Row.at (R0.ext hB) h0_75 h1_76
     refine ⟨h0_75, h1_76, a73, ha74, _, (hat72 2 _ rfl), ?_⟩
     cases hr.trans H.symm
     exact ⟨rfl, hB⟩
    cases hr.trans H.symm
    exact ⟨rfl, hB⟩
   cases hr.trans H.symm
   exact ⟨rfl, hB⟩
  cases hr.trans H.symm
  exact ⟨rfl, hB⟩
 cases hr.trans H.symm
 exact ⟨rfl, hB⟩
def impl_isWarpOf.vc (A0 : OA) (n0 c0 : Nat) (x1_0 : Int) (A1_1 : OA) (n1_1 c1_1 : Nat) (A1_2 : OA) (n1_2 c1_2 : Nat) (w : World) (K : VK) : Prop :=
  newK w (.cells #[(iv x1_0), (sv A1_1 n1_1 c1_1), (sv A1_2 n1_2 c1_2)] 52) fun g21 w22 => ldI w22 (((bx g21).add 0).add 0) fun n23 => Cl 137 #[(iv n23)] w22 fun v24 w25 => (∃ (b26 : Bool), v24 = (.bool b26) ∧ bcase b26 (ldS w25 (((bx g21).add 2).add 0) fun A27 n28 c29 => Cl 138 #[(sv A27 n28 c29)] w25 fun v30 w31 => (∃ (b32 : Bool), v30 = (.bool b32) ∧ bcase b32 (ldS w31 (((bx g21).add 2).add 0) fun A33 n34 c35 => Cl 136 #[(sv A33 n34 c35)] w31 fun v36 w37 => (∃ (b38 : Bool), v36 = (.bool b38) ∧ bcase b38 (ldS w37 (((bx g21).add 1).add 0) fun A39 n40 c41 => Cl 139 #[(sv A39 n40 c41), (iv ((n0 : Nat) : Int))] w37 fun v42 w43 => (∃ (b44 : Bool), v42 = (.bool b44) ∧ K (.bool b44) w43)) (K (.bool false) w37))) (K (.bool false) w31))) (K (.bool false) w25))

def impl_isWarpOf.ann : Ann := (.seq .l (.seq .l .l))

theorem impl_isWarpOf.con {xs0 : List D.Ins} {A0 A1_1 A1_2 : OA} {c0 c1_1 c1_2 : Nat} {s1 : D.Warp} {r : Bool} {w : World} (hp : M.impl_isWarpOf_pre xs0 s1) (hr : r = M.impl_isWarpOf xs0 s1) (R0 : Row el84 w A0 xs0) (hc0 : xs0.length ≤ c0) (R1_1 : Row el91 w A1_1 s1.Frames) (hc1_1 : s1.Frames.length ≤ c1_1) (R1_2 : Row el3 w A1_2 s1.Regs) (hc1_2 : s1.Regs.length ≤ c1_2) :
    Cl 79 #[(sv A0 xs0.length c0), (.agg (wC A1_1 c1_1 A1_2 c1_2 s1))] w (fun v_ w_ => v_ = (.bool r) ∧ Ext w w_) := by
 have H := wp.impl_isWarpOf.math xs0 s1 hp
 refine begK mixed Tryz.f79 ann (vc A0 xs0.length c0 s1.Number A1_1 s1.Frames.length c1_1 A1_2 s1.Regs.length c1_2) ?_
 unfold vc
 unfold wp.impl_isWarpOf at H
 refine newBlk (fun g4_ w21 L4 O4 e22 => ?_)
 refine ⟨_, (O4.a 0), ?_⟩
 obtain ⟨r23, hr24, H⟩ := callO H
 refine (impl_isWarpNumber.con hr24 ).mono ?_
 rintro _ w26 ⟨rfl, e27⟩
 have O4 := O4.ext e27
 have hB := ethen (ethen (Ext.refl w) e22) e27
 refine ⟨r23, rfl, ?_⟩
 refine brc H (fun h H => ?_) fun h H => ?_
 ·refine ⟨_, _, _, (O4.a 2), ?_⟩
  obtain ⟨r28, hr29, H⟩ := callO H
  refine (impl_areAllRegs.con hr29 (R1_2.ext hB) hc1_2).mono ?_
  rintro _ w31 ⟨rfl, e32⟩
  have O4 := O4.ext e32
  have hB := ethen hB e32
  refine ⟨r28, rfl, ?_⟩
  refine brc H (fun h H => ?_) fun h H => ?_
  ·refine ⟨_, _, _, (O4.a 2), ?_⟩
   obtain ⟨hp35, H⟩ := H
   obtain ⟨r33, hr34, H⟩ := callO H
   refine (impl_AreWords.con hp35 hr34 (R1_2.ext hB) hc1_2).mono ?_
   rintro _ w36 ⟨rfl, e37⟩
   have O4 := O4.ext e37
   have hB := ethen hB e37
   refine ⟨r33, rfl, ?_⟩
   refine brc H (fun h H => ?_) fun h H => ?_
   ·refine ⟨_, _, _, (O4.a 1), ?_⟩
    obtain ⟨hp40, H⟩ := H
    obtain ⟨r38, hr39, H⟩ := callO H
    refine (impl_areFrames.con hp40 hr39 (R1_1.ext hB) hc1_1).mono ?_
    rintro _ w41 ⟨rfl, e42⟩
    have hB := ethen hB e42
    refine ⟨r38, rfl, ?_⟩
    cases hr.trans H.symm
    exact ⟨rfl, hB⟩
   cases hr.trans H.symm
   exact ⟨rfl, hB⟩
  cases hr.trans H.symm
  exact ⟨rfl, hB⟩
 cases hr.trans H.symm
 exact ⟨rfl, hB⟩
def impl_BlockOk.vc (A0_0 : OA) (n0_0 c0_0 : Nat) (A0_1 : OA) (n0_1 c0_1 : Nat) (A0_2 : OA) (n0_2 c0_2 : Nat) (x0_3 x0_4 : Int) (w : World) (K : VK) : Prop :=
  newK w (.cells (vB A0_0 n0_0 c0_0 A0_1 n0_1 c0_1 A0_2 n0_2 c0_2 x0_3 x0_4) 33) fun g21 w22 => (∃ M24 : Nat → Prop, ldSM M24 w22 ((bx g21).add 0) 0 fun A25 n26 c27 => Cl 75 #[(sv A25 n26 c27)] w22.drew fun v28 w29 => (∃ (b30 : Bool), v28 = (.bool b30) ∧ SameBut M24 w22 w29 ∧ bcase (!b30) (K (.bool false) w29) (ldSM M24 w22 ((bx g21).add 1) 0 fun A31 n32 c33 => Cl 76 #[(iv ((n32 : Nat) : Int))] w29 fun v34 w35 => (∃ (b36 : Bool), v34 = (.bool b36) ∧ SameBut M24 w22 w35 ∧ bcase (!b36) (K (.bool false) w35) (ldSM M24 w22 ((bx g21).add 2) 0 fun A37 n38 c39 => Cl 77 #[(sv A37 n38 c39)] w35 fun v40 w41 => (∃ (b42 : Bool), v40 = (.bool b42) ∧ SameBut M24 w22 w41 ∧ bcase (!b42) (K (.bool false) w41) (ldIM M24 w22 ((bx g21).add 3) 0 fun n43 => ldSM M24 w22 ((bx g21).add 1) 0 fun A44 n45 c46 => ((0 : Int) ≤ ((n45 : Nat) : Int) ∧ Cl 78 #[(iv n43), (iv 0), (iv (wrap .i64 ((wrap .i64 (1 * 2 ^ (min (((n45 : Nat) : Int).toNat) (IntKind.bits .i64)))) - 2)))] w41 fun v47 w48 => (∃ (b49 : Bool), v47 = (.bool b49) ∧ SameBut M24 w22 w48 ∧ bcase (!b49) (K (.bool false) w48) (ldIM M24 w22 ((bx g21).add 4) 0 fun n50 => Cl 78 #[(iv n50), (iv 0), (iv 100000)] w48 fun v51 w52 => (∃ (b53 : Bool), v51 = (.bool b53) ∧ SameBut M24 w22 w52 ∧ bcase (!b53) (K (.bool false) w52) (ldS w52 (((bx g21).add 1).add 0) fun A54 n55 c56 => LoopT (σ := Int × Unit) (fun z57 w58 next59 => bcase (decide (z57.1 < ((n55 : Nat) : Int))) ((idx z57.1 n55 A54 fun a60 => ldI w58 ((a60.add ((z57.1.toNat) * 3)).add 0) fun n61 => ldS w58 ((a60.add ((z57.1.toNat) * 3)).add 1) fun A62 n63 c64 => ldS w58 ((a60.add ((z57.1.toNat) * 3)).add 2) fun A65 n66 c67 => newK w58 (.cells #[(iv 0), (sv none 0 0), (sv none 0 0)] 52) fun g68 w69 => stCells (bx g68) [(iv n61), (sv A62 n63 c64), (sv A65 n66 c67)] 0 w69 fun w70 => ldI w70 (((bx g68).add 0).add 0) fun n71 => bcase (n71 != z57.1) (K (.bool false) w70) (ldS w70 (((bx g21).add 0).add 0) fun A72 n73 c74 => ldI w70 ((bx g68).add 0) fun n75 => ldS w70 ((bx g68).add 1) fun A76 n77 c78 => ldS w70 ((bx g68).add 2) fun A79 n80 c81 => Cl 79 #[(sv A72 n73 c74), (.agg #[(iv n75), (sv A76 n77 c78), (sv A79 n80 c81)])] w70 fun v82 w83 => (∃ (b84 : Bool), v82 = (.bool b84) ∧ bcase (!b84) (K (.bool false) w83) (next59 ((wrap .i64 (z57.1 + 1)), ()) w83))))) (K (.bool true) w58)) (0, ()) w52))))))))))))

def impl_BlockOk.ann : Ann := (.seq .l (.seq (.seq .l (.two (.seq .l .l) .l)) (.seq (.seq .l (.one (.loop [(42, .int .i64)] (.seq .l (.seq (.two .l .l) (.seq (.one (.seq .l (.seq .l (.two (.seq .l .l) .l)))) .l)))))) (.seq .l .l))))

theorem impl_BlockOk.con {s0 : D.Block} {A0_0 A0_1 A0_2 : OA} {c0_0 c0_1 c0_2 : Nat} {r : Bool} {w : World} (hp : M.impl_BlockOk_pre s0) (hr : r = M.impl_BlockOk s0) (R0_0 : Row el84 w A0_0 s0.Code) (hc0_0 : s0.Code.length ≤ c0_0) (R0_1 : RowW 52 el91 el3 w A0_1 s0.Warps) (hc0_1 : s0.Warps.length ≤ c0_1) (R0_2 : Row el3 w A0_2 s0.Memory) (hc0_2 : s0.Memory.length ≤ c0_2) :
    Cl 32 #[(.agg (bC A0_0 c0_0 A0_1 c0_1 A0_2 c0_2 s0))] w (fun v_ w_ => v_ = (.bool r) ∧ Ext w w_) := by
 have H := wp.impl_BlockOk.math s0 hp
 refine begK mixed Tryz.f32 ann (vc A0_0 s0.Code.length c0_0 A0_1 s0.Warps.length c0_1 A0_2 s0.Memory.length c0_2 s0.Waiting s0.Phase) ?_
 unfold vc
 unfold wp.impl_BlockOk at H
 refine newBlk (fun g4_ w21 L4 O4 e22 => ?_)
 have hB := ethen (Ext.refl w) e22
 refine ⟨(fun _ => False), ?_⟩
 have hBz := hB
 have Z4 := O4
 refine ⟨_, _, _, noM (O4.a 0), ?_⟩
 have O4 := O4.ext (Ext.drew _)
 have hB := ethen hB (Ext.drew _)
 have hS23 := (Chg.refl (fun _ => False) w21).then (Ext.drew _)
 obtain ⟨hp31, H⟩ := H
 obtain ⟨r29, hr30, H⟩ := callO H
 refine (impl_ProgramOk.con hp31 hr30 (R0_0.ext hB) hc0_0).mono ?_
 rintro _ w32 ⟨rfl, e33⟩
 have O4 := O4.ext e33
 have hB := ethen hB e33
 have hS23 := hS23.then e33
 refine ⟨r29, rfl, sameBut_chg hS23, ?_⟩
 refine brc H (fun h H => ?_) fun h H => ?_
 ·cases hr.trans H.symm
  exact ⟨rfl, hB⟩
 refine ⟨_, _, _, ⟨(fun h_ => h_), (Z4.at 1 rfl rfl)⟩, ?_⟩
 obtain ⟨r34, hr35, H⟩ := callO H
 refine (impl_isWarpCount.con hr35 ).mono ?_
 rintro _ w37 ⟨rfl, e38⟩
 have O4 := O4.ext e38
 have hB := ethen hB e38
 have hS23 := hS23.then e38
 refine ⟨r34, rfl, sameBut_chg hS23, ?_⟩
 refine brc H (fun h H => ?_) fun h H => ?_
 ·cases hr.trans H.symm
  exact ⟨rfl, hB⟩
 refine ⟨_, _, _, ⟨(fun h_ => h_), (Z4.at 2 rfl rfl)⟩, ?_⟩
 obtain ⟨hp41, H⟩ := H
 obtain ⟨r39, hr40, H⟩ := callO H
 refine (impl_isMemory.con hp41 hr40 (R0_2.ext hB) hc0_2).mono ?_
 rintro _ w42 ⟨rfl, e43⟩
 have O4 := O4.ext e43
 have hB := ethen hB e43
 have hS23 := hS23.then e43
 refine ⟨r39, rfl, sameBut_chg hS23, ?_⟩
 refine brc H (fun h H => ?_) fun h H => ?_
 ·cases hr.trans H.symm
  exact ⟨rfl, hB⟩
 refine ⟨_, ⟨(fun h_ => h_), (Z4.at 3 rfl rfl)⟩, _, _, _, ⟨(fun h_ => h_), (Z4.at 1 rfl rfl)⟩, ?_⟩
 obtain ⟨hc44, H⟩ := H
 refine ⟨hc44, ?_⟩
 obtain ⟨r45, hr46, H⟩ := callO H
 refine (impl_within.con hr46 ).mono ?_
 rintro _ w48 ⟨rfl, e49⟩
 have O4 := O4.ext e49
 have hB := ethen hB e49
 have hS23 := hS23.then e49
 refine ⟨r45, rfl, sameBut_chg hS23, ?_⟩
 refine brc H (fun h H => ?_) fun h H => ?_
 ·cases hr.trans H.symm
  exact ⟨rfl, hB⟩
 refine ⟨_, ⟨(fun h_ => h_), (Z4.at 4 rfl rfl)⟩, ?_⟩
 obtain ⟨r50, hr51, H⟩ := callO H
 refine (impl_within.con hr51 ).mono ?_
 rintro _ w53 ⟨rfl, e54⟩
 have O4 := O4.ext e54
 have hB := ethen hB e54
 have hS23 := hS23.then e54
 refine ⟨r50, rfl, sameBut_chg hS23, ?_⟩
 refine brc H (fun h H => ?_) fun h H => ?_
 ·cases hr.trans H.symm
  exact ⟨rfl, hB⟩
 refine ⟨_, _, _, (O4.a 1), ?_⟩
 obtain ⟨J57, ⟨m94, hJ93⟩, hS58⟩ := H
 refine ⟨fun m_ z_ w_ => ∃ (i55 : Int), z_ = (i55, ()) ∧ J57 m_ (i55, ()) ∧ Ext w w_ ∧ Blk w_ g4_ 33 (bC A0_0 c0_0 A0_1 c0_1 A0_2 c0_2 s0), ⟨m94, 0, rfl, hJ93, hB, O4⟩, ?_⟩
 rintro m56 _ w60 ⟨i55, rfl, hJ95, hB, O4⟩
 have H := hS58 m56 _ hJ95
 clear hS58 hJ95
 try dsimp only at H ⊢
 refine brc H (fun h H => ?_) fun h H => ?_
 ·obtain ⟨⟨h0_64, h1_65⟩, H⟩ := H
  obtain ⟨a62, ha63, A69, c70, A71, c72, f66, f67, f68, R73, hle75, R74, hle76⟩ := RowW.at R0_1 h0_64 h1_65
  refine ⟨h0_64, h1_65, a62, ha63, _, (Ext.cell hB f66), _, _, _, (Ext.cell hB f67), _, _, _, (Ext.cell hB f68), ?_⟩
  refine newSt #[(iv ((rd s0.Warps i55).Number)), (sv A69 ((rd s0.Warps i55).Frames.length) c70), (sv A71 ((rd s0.Warps i55).Regs.length) c72)] (fun g7_ w79 L7 O7 e80 => ?_)
  have O4 := O4.ext e80
  have hB := ethen hB e80
  refine ⟨_, (O7.a 0), ?_⟩
  refine brc H (fun h H => ?_) fun h H => ?_
  ·cases hr.trans H.symm
   exact ⟨rfl, hB⟩
  refine ⟨_, _, _, (O4.a 0), _, (O7.a 0), _, _, _, (O7.a 1), _, _, _, (O7.a 2), ?_⟩
  obtain ⟨hp83, H⟩ := H
  obtain ⟨r81, hr82, H⟩ := callO H
  refine (cllA (impl_isWarpOf.con hp83 hr82 (R0_0.ext hB) hc0_0 (R73.ext hB) hle75 (R74.ext hB) hle76)).mono ?_
  rintro _ w84 ⟨rfl, e85⟩
  have O4 := O4.ext e85
  have hB := ethen hB e85
  refine ⟨r81, rfl, ?_⟩
  refine brc H (fun h H => ?_) fun h H => ?_
  ·cases hr.trans H.symm
   exact ⟨rfl, hB⟩
  obtain ⟨m86, hm87, hJ88⟩ := H
  exact ⟨m86, hm87, _, rfl, hJ88, hB, O4⟩
 cases hr.trans H.symm
 exact ⟨rfl, hB⟩
def impl_hasWarp.vc (A0_0 : OA) (n0_0 c0_0 : Nat) (A0_1 : OA) (n0_1 c0_1 : Nat) (A0_2 : OA) (n0_2 c0_2 : Nat) (x0_3 x0_4 x1 : Int) (w : World) (K : VK) : Prop :=
  newK w (.cells (vB A0_0 n0_0 c0_0 A0_1 n0_1 c0_1 A0_2 n0_2 c0_2 x0_3 x0_4) 33) fun g21 w22 => ldB w22 (bx g21) fun A23 n24 c25 A26 n27 c28 A29 n30 c31 n32 n33 => Cl 32 #[(.agg (vB A23 n24 c25 A26 n27 c28 A29 n30 c31 n32 n33))] w22 fun v34 w35 => (∃ (b36 : Bool), v34 = (.bool b36) ∧ bcase b36 (ldS w35 (((bx g21).add 1).add 0) fun A37 n38 c39 => Cl 78 #[(iv x1), (iv 0), (iv (wrap .i64 (((n38 : Nat) : Int) - 1)))] w35 fun v40 w41 => (∃ (b42 : Bool), v40 = (.bool b42) ∧ K (.bool b42) w41)) (K (.bool false) w35))

def impl_hasWarp.ann : Ann := (.seq .l (.seq .l .l))

theorem impl_hasWarp.con {s0 : D.Block} {A0_0 A0_1 A0_2 : OA} {c0_0 c0_1 c0_2 : Nat} {x1 : Int} {r : Bool} {w : World} (hp : M.impl_hasWarp_pre s0 x1) (hr : r = M.impl_hasWarp s0 x1) (R0_0 : Row el84 w A0_0 s0.Code) (hc0_0 : s0.Code.length ≤ c0_0) (R0_1 : RowW 52 el91 el3 w A0_1 s0.Warps) (hc0_1 : s0.Warps.length ≤ c0_1) (R0_2 : Row el3 w A0_2 s0.Memory) (hc0_2 : s0.Memory.length ≤ c0_2) :
    Cl 62 #[(.agg (bC A0_0 c0_0 A0_1 c0_1 A0_2 c0_2 s0)), (iv x1)] w (fun v_ w_ => v_ = (.bool r) ∧ Ext w w_) := by
 have H := wp.impl_hasWarp.math s0 x1 hp
 refine begK mixed Tryz.f62 ann (vc A0_0 s0.Code.length c0_0 A0_1 s0.Warps.length c0_1 A0_2 s0.Memory.length c0_2 s0.Waiting s0.Phase x1) ?_
 unfold vc
 unfold wp.impl_hasWarp at H
 refine newBlk (fun g4_ w21 L4 O4 e22 => ?_)
 have hB := ethen (Ext.refl w) e22
 refine ⟨_, _, _, (O4.a 0), _, _, _, (O4.a 1), _, _, _, (O4.a 2), _, (O4.a 3), _, (O4.a 4), ?_⟩
 obtain ⟨hp25, H⟩ := H
 obtain ⟨r23, hr24, H⟩ := callO H
 refine (impl_BlockOk.con hp25 hr24 (R0_0.ext hB) hc0_0 (R0_1.ext hB) hc0_1 (R0_2.ext hB) hc0_2).mono ?_
 rintro _ w26 ⟨rfl, e27⟩
 have O4 := O4.ext e27
 have hB := ethen hB e27
 refine ⟨r23, rfl, ?_⟩
 refine brc H (fun h H => ?_) fun h H => ?_
 ·refine ⟨_, _, _, (O4.a 1), ?_⟩
  obtain ⟨r28, hr29, H⟩ := callO H
  refine (impl_within.con hr29 ).mono ?_
  rintro _ w31 ⟨rfl, e32⟩
  have hB := ethen hB e32
  refine ⟨r28, rfl, ?_⟩
  cases hr.trans H.symm
  exact ⟨rfl, hB⟩
 cases hr.trans H.symm
 exact ⟨rfl, hB⟩
def impl_Block_waits.vc (A0_0 : OA) (n0_0 c0_0 : Nat) (A0_1 : OA) (n0_1 c0_1 : Nat) (A0_2 : OA) (n0_2 c0_2 : Nat) (x0_3 x0_4 x1 : Int) (w : World) (K : VK) : Prop :=
  newK w (.cells (vB A0_0 n0_0 c0_0 A0_1 n0_1 c0_1 A0_2 n0_2 c0_2 x0_3 x0_4) 33) fun g21 w22 => ldI w22 (((bx g21).add 3).add 0) fun n23 => ((0 : Int) ≤ x1 ∧ K (.bool ((bitAnd .i64 (Int.fdiv n23 (2 ^ (min (x1.toNat) (IntKind.bits .i64)))) 1) == 1)) w22)

def impl_Block_waits.ann : Ann := (.seq .l (.seq .l .l))

theorem impl_Block_waits.con {s0 : D.Block} {A0_0 A0_1 A0_2 : OA} {c0_0 c0_1 c0_2 : Nat} {x1 : Int} {r : Bool} {w : World} (hp : M.impl_Block_waits_pre s0 x1) (hr : r = M.impl_Block_waits s0 x1) (R0_0 : Row el84 w A0_0 s0.Code) (hc0_0 : s0.Code.length ≤ c0_0) (R0_1 : RowW 52 el91 el3 w A0_1 s0.Warps) (hc0_1 : s0.Warps.length ≤ c0_1) (R0_2 : Row el3 w A0_2 s0.Memory) (hc0_2 : s0.Memory.length ≤ c0_2) :
    Cl 65 #[(.agg (bC A0_0 c0_0 A0_1 c0_1 A0_2 c0_2 s0)), (iv x1)] w (fun v_ w_ => v_ = (.bool r) ∧ Ext w w_) := by
 have H := wp.impl_Block_waits.math s0 x1 hp
 refine begK mixed Tryz.f65 ann (vc A0_0 s0.Code.length c0_0 A0_1 s0.Warps.length c0_1 A0_2 s0.Memory.length c0_2 s0.Waiting s0.Phase x1) ?_
 unfold vc
 unfold wp.impl_Block_waits at H
 refine newBlk (fun g4_ w21 L4 O4 e22 => ?_)
 have hB := ethen (Ext.refl w) e22
 refine ⟨_, (O4.a 3), ?_⟩
 obtain ⟨hc23, H⟩ := H
 refine ⟨hc23, ?_⟩
 cases hr.trans H.symm
 exact ⟨rfl, hB⟩
def spec_l30Next.vc (A0_0 : OA) (n0_0 c0_0 : Nat) (A0_1 : OA) (n0_1 c0_1 : Nat) (A0_2 : OA) (n0_2 c0_2 : Nat) (x0_3 x0_4 x1 : Int) (w : World) (K : VK) : Prop :=
  newK w (.cells (vB A0_0 n0_0 c0_0 A0_1 n0_1 c0_1 A0_2 n0_2 c0_2 x0_3 x0_4) 33) fun g21 w22 => newK w22 (.cells #[(iv 0), (iv 0), (iv 0), (iv 0)] 84) fun g23 w24 => ldS w24 (((bx g21).add 1).add 0) fun A25 n26 c27 => (idx x1 n26 A25 fun a28 => ldS w24 (((a28.add ((x1.toNat) * 3)).add 1).add 0) fun A29 n30 c31 => (∃ M32 : Nat → Prop, ldSM M32 w24 ((bx g21).add 0) 0 fun A33 n34 c35 => (idx (wrap .i64 (((n30 : Nat) : Int) - 1)) n30 A29 fun a36 => ldIM M32 w24 ((a36.add (((wrap .i64 (((n30 : Nat) : Int) - 1)).toNat) * 3)).add 0) 0 fun n37 => (idx n37 n34 A33 fun a38 => ldIM M32 w24 (a38.add ((n37.toNat) * 4)) 0 fun n39 => ldIM M32 w24 (a38.add ((n37.toNat) * 4)) 1 fun n40 => ldIM M32 w24 (a38.add ((n37.toNat) * 4)) 2 fun n41 => ldIM M32 w24 (a38.add ((n37.toNat) * 4)) 3 fun n42 => stCells (bx g23) [(iv n39), (iv n40), (iv n41), (iv n42)] 0 w24.drew fun w43 => ldI w43 ((bx g23).add 0) fun n44 => ldI w43 ((bx g23).add 1) fun n45 => ldI w43 ((bx g23).add 2) fun n46 => ldI w43 ((bx g23).add 3) fun n47 => K (.agg #[(iv n44), (iv n45), (iv n46), (iv n47)]) w43))))

def spec_l30Next.ann : Ann := (.seq .l (.seq .l (.seq .l .l)))

theorem spec_l30Next.con {s0 : D.Block} {A0_0 A0_1 A0_2 : OA} {c0_0 c0_1 c0_2 : Nat} {x1 : Int} {r : D.Ins} {w : World} (hp : M.spec_l30Next_pre s0 x1) (hr : r = M.spec_l30Next s0 x1) (R0_0 : Row el84 w A0_0 s0.Code) (hc0_0 : s0.Code.length ≤ c0_0) (R0_1 : RowW 52 el91 el3 w A0_1 s0.Warps) (hc0_1 : s0.Warps.length ≤ c0_1) (R0_2 : Row el3 w A0_2 s0.Memory) (hc0_2 : s0.Memory.length ≤ c0_2) :
    Cl 98 #[(.agg (bC A0_0 c0_0 A0_1 c0_1 A0_2 c0_2 s0)), (iv x1)] w (fun v_ w_ => v_ = (.agg (iC r)) ∧ Ext w w_) := by
 have H := wp.spec_l30Next.math s0 x1 hp
 refine begK mixed Tryz.f98 ann (vc A0_0 s0.Code.length c0_0 A0_1 s0.Warps.length c0_1 A0_2 s0.Memory.length c0_2 s0.Waiting s0.Phase x1) ?_
 unfold vc
 unfold wp.spec_l30Next at H
 refine newBlk (fun g4_ w21 L4 O4 e22 => ?_)
 have hB := ethen (Ext.refl w) e22
 refine newBlk (fun g5_ w23 L5 P5 e24 => ?_)
 have O4 := O4.ext e24
 have L5 := Nat.le_trans hB.size L5
 have hB := ethen hB e24
 refine ⟨_, _, _, (O4.a 1), ?_⟩
 obtain ⟨⟨h0_28, h1_29⟩, H⟩ := H
 obtain ⟨a26, ha27, A33, c34, A35, c36, f30, f31, f32, R37, hle39, R38, hle40⟩ := RowW.at R0_1 h0_28 h1_29
 refine ⟨h0_28, h1_29, a26, ha27, _, _, _, (Ext.cell hB f31), (fun _ => False), _, _, _, noM (O4.a 0), ?_⟩
 obtain ⟨⟨h0_45, h1_46⟩, H⟩ := H
 obtain ⟨a43, ha44, hat42⟩ := Row.at (R37.ext hB) h0_45 h1_46
 refine ⟨h0_45, (by first | exact h1_46 | omega | (simp at h1_46 ⊢; omega)), a43, ha44, _, ⟨(fun h_ => h_), (hat42 0 _ rfl)⟩, ?_⟩
 obtain ⟨⟨h0_50, h1_51⟩, H⟩ := H
 obtain ⟨a48, ha49, hat47⟩ := Row.at (R0_0.ext hB) h0_50 h1_51
 refine ⟨h0_50, h1_51, a48, ha49, _, ⟨(fun h_ => h_), (hat47 0 _ rfl)⟩, _, ⟨(fun h_ => h_), (hat47 1 _ rfl)⟩, _, ⟨(fun h_ => h_), (hat47 2 _ rfl)⟩, _, ⟨(fun h_ => h_), (hat47 3 _ rfl)⟩, ?_⟩
 have O5 := P5.ext (Ext.drew _)
 have hB := ethen hB (Ext.drew _)
 refine stBlk O5 (o := 0) (cs' := #[(iv ((rd s0.Code ((rd ((rd s0.Warps x1).Frames) (wrap .i64 (((rd s0.Warps x1).Frames.length : Int) - 1))).Pc)).Op)), (iv ((rd s0.Code ((rd ((rd s0.Warps x1).Frames) (wrap .i64 (((rd s0.Warps x1).Frames.length : Int) - 1))).Pc)).A)), (iv ((rd s0.Code ((rd ((rd s0.Warps x1).Frames) (wrap .i64 (((rd s0.Warps x1).Frames.length : Int) - 1))).Pc)).B)), (iv ((rd s0.Code ((rd ((rd s0.Warps x1).Frames) (wrap .i64 (((rd s0.Warps x1).Frames.length : Int) - 1))).Pc)).C))]) rfl rfl (Nat.le_of_ble_eq_true rfl) rfl (fun w52 O5 e53 => ?_)
 have hB := echg hB e53 L5
 refine ⟨_, (O5.a 0), _, (O5.a 1), _, (O5.a 2), _, (O5.a 3), ?_⟩
 cases hr.trans H.symm
 exact ⟨rfl, hB⟩
def impl_Block_nextIns.vc (A0_0 : OA) (n0_0 c0_0 : Nat) (A0_1 : OA) (n0_1 c0_1 : Nat) (A0_2 : OA) (n0_2 c0_2 : Nat) (x0_3 x0_4 x1 : Int) (w : World) (K : VK) : Prop :=
  newK w (.cells (vB A0_0 n0_0 c0_0 A0_1 n0_1 c0_1 A0_2 n0_2 c0_2 x0_3 x0_4) 33) fun g21 w22 => newK w22 (.cells #[(iv 0), (iv 0), (iv 0), (iv 0)] 84) fun g23 w24 => ldS w24 (((bx g21).add 1).add 0) fun A25 n26 c27 => (idx x1 n26 A25 fun a28 => ldS w24 (((a28.add ((x1.toNat) * 3)).add 1).add 0) fun A29 n30 c31 => bcase (((n30 : Nat) : Int) == 0) (stCells (bx g23) [(iv 0), (iv 0), (iv 0), (iv 0)] 0 w24 fun w32 => ldI w32 ((bx g23).add 0) fun n33 => ldI w32 ((bx g23).add 1) fun n34 => ldI w32 ((bx g23).add 2) fun n35 => ldI w32 ((bx g23).add 3) fun n36 => K (.tuple #[(.agg #[(iv n33), (iv n34), (iv n35), (iv n36)]), (.bool false)]) w32) ((∃ M37 : Nat → Prop, ldSM M37 w24 ((bx g21).add 0) 0 fun A38 n39 c40 => (idx (wrap .i64 (((n30 : Nat) : Int) - 1)) n30 A29 fun a41 => ldIM M37 w24 ((a41.add (((wrap .i64 (((n30 : Nat) : Int) - 1)).toNat) * 3)).add 0) 0 fun n42 => (idx n42 n39 A38 fun a43 => ldIM M37 w24 (a43.add ((n42.toNat) * 4)) 0 fun n44 => ldIM M37 w24 (a43.add ((n42.toNat) * 4)) 1 fun n45 => ldIM M37 w24 (a43.add ((n42.toNat) * 4)) 2 fun n46 => ldIM M37 w24 (a43.add ((n42.toNat) * 4)) 3 fun n47 => stCells (bx g23) [(iv n44), (iv n45), (iv n46), (iv n47)] 0 w24.drew fun w48 => SameBut M37 w24 w48 ∧ ldI w48 ((bx g23).add 0) fun n49 => ldI w48 ((bx g23).add 1) fun n50 => ldI w48 ((bx g23).add 2) fun n51 => ldI w48 ((bx g23).add 3) fun n52 => K (.tuple #[(.agg #[(iv n49), (iv n50), (iv n51), (iv n52)]), (.bool true)]) w48)))))

def impl_Block_nextIns.ann : Ann := (.seq .l (.seq .l (.seq (.seq .l (.two (.seq .l .l) .l)) (.seq .l .l))))

theorem impl_Block_nextIns.con {s0 : D.Block} {A0_0 A0_1 A0_2 : OA} {c0_0 c0_1 c0_2 : Nat} {x1 : Int} {r : D.Ins × Bool} {w : World} (hp : M.impl_Block_nextIns_pre s0 x1) (hr : r = M.impl_Block_nextIns s0 x1) (R0_0 : Row el84 w A0_0 s0.Code) (hc0_0 : s0.Code.length ≤ c0_0) (R0_1 : RowW 52 el91 el3 w A0_1 s0.Warps) (hc0_1 : s0.Warps.length ≤ c0_1) (R0_2 : Row el3 w A0_2 s0.Memory) (hc0_2 : s0.Memory.length ≤ c0_2) :
    Cl 68 #[(.agg (bC A0_0 c0_0 A0_1 c0_1 A0_2 c0_2 s0)), (iv x1)] w (fun v_ w_ => v_ = (.tuple #[(.agg (iC r.1)), (.bool r.2)]) ∧ Ext w w_) := by
 have H := wp.impl_Block_nextIns.math s0 x1 hp
 refine begK mixed Tryz.f68 ann (vc A0_0 s0.Code.length c0_0 A0_1 s0.Warps.length c0_1 A0_2 s0.Memory.length c0_2 s0.Waiting s0.Phase x1) ?_
 unfold vc
 unfold wp.impl_Block_nextIns at H
 refine newBlk (fun g4_ w21 L4 O4 e22 => ?_)
 have hB := ethen (Ext.refl w) e22
 refine newBlk (fun g5_ w23 L5 P5 e24 => ?_)
 have N4_5 := O4.ne L5
 have O4 := O4.ext e24
 have O5 := P5
 have L5 := Nat.le_trans hB.size L5
 have hB := ethen hB e24
 refine ⟨_, _, _, (O4.a 1), ?_⟩
 obtain ⟨⟨h0_28, h1_29⟩, H⟩ := H
 obtain ⟨a26, ha27, A33, c34, A35, c36, f30, f31, f32, R37, hle39, R38, hle40⟩ := RowW.at R0_1 h0_28 h1_29
 refine ⟨h0_28, h1_29, a26, ha27, _, _, _, (Ext.cell hB f31), ?_⟩
 refine brc H (fun h H => ?_) fun h H => ?_
 ·refine stBlk O5 (o := 0) (cs' := #[(iv 0), (iv 0), (iv 0), (iv 0)]) rfl rfl (Nat.le_of_ble_eq_true rfl) rfl (fun w41 O5 e42 => ?_)
  have hB := echg hB e42 L5
  refine ⟨_, (O5.a 0), _, (O5.a 1), _, (O5.a 2), _, (O5.a 3), ?_⟩
  cases hr.trans H.symm
  exact ⟨rfl, hB⟩
 refine ⟨((fun k_ => k_ = g5_)), _, _, _, ⟨(notM1 (N4_5) (by first | rfl | (simp only [blk_add]))), (O4.a 0)⟩, ?_⟩
 obtain ⟨⟨h0_59, h1_60⟩, H⟩ := H
 obtain ⟨a57, ha58, hat56⟩ := Row.at (R37.ext hB) h0_59 h1_60
 refine ⟨h0_59, (by first | exact h1_60 | omega | (simp at h1_60 ⊢; omega)), a57, ha58, _, ⟨(notM1 (M := ((fun k_ => k_ = g5_))) (g := Addr.block a57) (fun h_ => absurd (R37.old (ne_ix h0_59 h1_60) _ ⟨_, ha58, rfl⟩) (Nat.not_lt.2 (box_low L5 _ h_))) (by first | rfl | (simp only [blk_add]))), (hat56 0 _ rfl)⟩, ?_⟩
 obtain ⟨⟨h0_64, h1_65⟩, H⟩ := H
 obtain ⟨a62, ha63, hat61⟩ := Row.at (R0_0.ext hB) h0_64 h1_65
 refine ⟨h0_64, h1_65, a62, ha63, _, ⟨(notM1 (M := ((fun k_ => k_ = g5_))) (g := Addr.block a62) (fun h_ => absurd (R0_0.old (ne_ix h0_64 h1_65) _ ⟨_, ha63, rfl⟩) (Nat.not_lt.2 (box_low L5 _ h_))) (by first | rfl | (simp only [blk_add]))), (hat61 0 _ rfl)⟩, _, ⟨(notM1 (M := ((fun k_ => k_ = g5_))) (g := Addr.block a62) (fun h_ => absurd (R0_0.old (ne_ix h0_64 h1_65) _ ⟨_, ha63, rfl⟩) (Nat.not_lt.2 (box_low L5 _ h_))) (by first | rfl | (simp only [blk_add]))), (hat61 1 _ rfl)⟩, _, ⟨(notM1 (M := ((fun k_ => k_ = g5_))) (g := Addr.block a62) (fun h_ => absurd (R0_0.old (ne_ix h0_64 h1_65) _ ⟨_, ha63, rfl⟩) (Nat.not_lt.2 (box_low L5 _ h_))) (by first | rfl | (simp only [blk_add]))), (hat61 2 _ rfl)⟩, ?_⟩
 refine ⟨_, ⟨(notM1 (M := ((fun k_ => k_ = g5_))) (g := Addr.block a62) (fun h_ => absurd (R0_0.old (ne_ix h0_64 h1_65) _ ⟨_, ha63, rfl⟩) (Nat.not_lt.2 (box_low L5 _ h_))) (by first | rfl | (simp only [blk_add]))), (hat61 3 _ rfl)⟩, ?_⟩
 have O5 := O5.ext (Ext.drew _)
 have hB := ethen hB (Ext.drew _)
 refine stBlk O5 (o := 0) (cs' := #[(iv ((rd s0.Code ((rd ((rd s0.Warps x1).Frames) (wrap .i64 (((rd s0.Warps x1).Frames.length : Int) - 1))).Pc)).Op)), (iv ((rd s0.Code ((rd ((rd s0.Warps x1).Frames) (wrap .i64 (((rd s0.Warps x1).Frames.length : Int) - 1))).Pc)).A)), (iv ((rd s0.Code ((rd ((rd s0.Warps x1).Frames) (wrap .i64 (((rd s0.Warps x1).Frames.length : Int) - 1))).Pc)).B)), (iv ((rd s0.Code ((rd ((rd s0.Warps x1).Frames) (wrap .i64 (((rd s0.Warps x1).Frames.length : Int) - 1))).Pc)).C))]) rfl rfl (Nat.le_of_ble_eq_true rfl) rfl (fun w66 O5 e67 => ?_)
 have hB := echg hB e67 L5
 have hS43 := ((Chg.refl ((fun k_ => k_ = g5_)) w23).then (Ext.drew _)).chgb e67 (Or.inr rfl)
 refine ⟨sameBut_chg hS43, _, (O5.a 0), _, (O5.a 1), _, (O5.a 2), _, (O5.a 3), ?_⟩
 cases hr.trans H.symm
 exact ⟨rfl, hB⟩
def laws_markFrameS.vc (A0 : OA) (n0 c0 : Nat) (x1 : Int) (w : World) (K : VK) : Prop :=
  LoopT (σ := Int × Int × Unit) (fun z21 w22 next23 => bcase (decide (z21.2.1 < ((n0 : Nat) : Int))) ((idx z21.2.1 n0 A0 fun a24 => stCells ((a24.add ((z21.2.1.toNat) * 3)).add 0) [(iv z21.1)] 0 w22 fun w25 => (idx z21.2.1 n0 A0 fun a26 => stCells ((a26.add ((z21.2.1.toNat) * 3)).add 1) [(iv (wrap .i64 (z21.1 + 1)))] 0 w25 fun w27 => (idx z21.2.1 n0 A0 fun a28 => stCells ((a28.add ((z21.2.1.toNat) * 3)).add 2) [(iv (wrap .i64 ((wrap .i64 (z21.1 + 1)) + 1)))] 0 w27 fun w29 => next23 ((wrap .i64 ((wrap .i64 ((wrap .i64 (z21.1 + 1)) + 1)) + 1)), (wrap .i64 (z21.2.1 + 1)), ()) w29)))) (K (iv z21.1) w22)) (x1, 0, ()) w

def laws_markFrameS.ann : Ann := (.seq .l (.seq (.seq .l (.one (.loop [(1, .int .i64), (5, .int .i64)] (.seq (.seq .l (.two .l .l)) (.seq (.one (.seq .l (.seq .l (.seq .l (.seq .l (.seq .l .l)))))) .l))))) (.seq .l .l)))

theorem laws_markFrameS.con {xs0 : List D.Frame} {A0 : OA} {c0 : Nat} {x1 : Int} {r : Int × (List D.Frame)} {w : World} (hp : M.laws_markFrameS_pre xs0 x1) (hr : r = M.laws_markFrameS xs0 x1) (O1 : Own el91 w 0 A0 c0 xs0) :
    Cl 114 #[(sv A0 xs0.length c0), (iv x1)] w (fun v_ w_ => v_ = (iv r.1) ∧ Own el91 w_ 0 A0 c0 r.2 ∧ r.2.length = xs0.length ∧ Chg (InB A0) w w_) := by
 have H := wp.laws_markFrameS.math xs0 x1 hp
 have hB := Chg.refl (InB A0) w
 refine begK mixed Tryz.f114 ann (vc A0 xs0.length c0 x1) ?_
 unfold vc
 unfold wp.laws_markFrameS at H
 obtain ⟨J59, ⟨m95, hJ94⟩, hS60⟩ := H
 refine ⟨fun m_ z_ w_ => ∃ (i54 i55 : Int) (xs56 : List D.Frame), z_ = (i54, i55, ()) ∧ J59 m_ (i54, i55, xs56, ()) ∧ Chg (InB A0) w w_ ∧ Own el91 w_ 0 A0 c0 xs56 ∧ xs0.length = xs56.length, ⟨m95, x1, 0, xs0, rfl, hJ94, hB, O1, (by first | rfl | assumption | omega | (simp; done) | (simp; omega) | (simp; assumption))⟩, ?_⟩
 rintro m58 _ w62 ⟨i54, i55, xs56, rfl, hJ96, hB, O1, hn57⟩
 have H := hS60 m58 _ hJ96
 clear hS60 hJ96
 try dsimp only at H ⊢
 refine brc H (fun h H => ?_) fun h H => ?_
 ·obtain ⟨⟨h0_66, h1_67⟩, H⟩ := H
  obtain ⟨a64, ha65, hat63⟩ := Row.at O1.row h0_66 h1_67
  refine ⟨h0_66, (by first | exact h1_67 | omega | (simp at h1_67 ⊢; omega)), a64, ha65, ?_⟩
  refine Own.stA O1 ha65 h0_66 h1_67 0 (⟨i54, (rd xs56 i55).Stop, (rd xs56 i55).Mask⟩ : D.Frame) (fun w68 P1 e69 hb70 => ?_)
  have O1 := P1
  obtain ⟨⟨h0_74, h1_75⟩, H⟩ := H
  obtain ⟨a72, ha73, hat71⟩ := Row.at O1.row h0_74 h1_75
  refine ⟨h0_74, (by first | exact h1_75 | omega | (simp at h1_75 ⊢; omega)), a72, ha73, ?_⟩
  have hrd79 := rd_set h0_74 h1_75
  refine Own.storeAt O1 ha73 h0_74 h1_75 1 [(iv (wrap .i64 (i54 + 1)))] (⟨i54, (wrap .i64 (i54 + 1)), (rd xs56 i55).Mask⟩ : D.Frame) (by rw [hrd79]; rfl) (Nat.le_of_ble_eq_true rfl) rfl (fun w76 P1 e77 hb78 => ?_)
  rw [List.set_set] at P1
  have O1 := P1
  obtain ⟨⟨h0_83, h1_84⟩, H⟩ := H
  obtain ⟨a81, ha82, hat80⟩ := Row.at O1.row h0_83 h1_84
  refine ⟨h0_83, (by first | exact h1_84 | omega | (simp at h1_84 ⊢; omega)), a81, ha82, ?_⟩
  have hrd88 := rd_set h0_83 h1_84
  refine Own.storeAt O1 ha82 h0_83 h1_84 2 [(iv (wrap .i64 ((wrap .i64 (i54 + 1)) + 1)))] (⟨i54, (wrap .i64 (i54 + 1)), (wrap .i64 ((wrap .i64 (i54 + 1)) + 1))⟩ : D.Frame) (by rw [hrd88]; rfl) (Nat.le_of_ble_eq_true rfl) rfl (fun w85 O1 e86 hb87 => ?_)
  rw [List.set_set] at O1
  have hB := ((hB.chgb e69 (Or.inr ⟨_, ha65, rfl⟩)).chgb e77 (Or.inr ⟨_, ha73, rfl⟩)).chgb e86 (Or.inr ⟨_, ha82, rfl⟩)
  obtain ⟨m89, hm90, hJ91⟩ := H
  exact ⟨m89, hm90, _, _, _, rfl, hJ91, hB, O1, (by first | rfl | assumption | omega | (simp; done) | (simp; omega) | (simp; assumption))⟩
 cases hr.trans H.symm
 exact ⟨rfl, O1, (by first | (simp only [bC, wC, List.length_set]; done) | (simp only [bC, wC, List.length_set, ← hn57]; done) | (simp; done) | (simp; omega) | omega), hB⟩
def laws_markWarpS.vc (A0 : OA) (n0 c0 : Nat) (x1 : Int) (w : World) (K : VK) : Prop :=
  LoopT (σ := Int × Int × Unit) (fun z21 w22 next23 => bcase (decide (z21.2.1 < ((n0 : Nat) : Int))) ((idx z21.2.1 n0 A0 fun a24 => stCells ((a24.add ((z21.2.1.toNat) * 3)).add 0) [(iv z21.1)] 0 w22 fun w25 => (idx z21.2.1 n0 A0 fun a26 => ldS w25 (((a26.add ((z21.2.1.toNat) * 3)).add 1).add 0) fun A27 n28 c29 => Cl 114 #[(sv A27 n28 c29), (iv (wrap .i64 (z21.1 + 1)))] w25 fun v30 w31 => (∃ (n32 : Int), v30 = (iv n32) ∧ (idx z21.2.1 n0 A0 fun a33 => ldS w31 (((a33.add ((z21.2.1.toNat) * 3)).add 2).add 0) fun A34 n35 c36 => Cl 57 #[(sv A34 n35 c36), (iv n32)] w31 fun v37 w38 => (∃ (n39 : Int), v37 = (iv n39) ∧ next23 (n39, (wrap .i64 (z21.2.1 + 1)), ()) w38)))))) (K (iv z21.1) w22)) (x1, 0, ()) w

def laws_markWarpS.ann : Ann := (.seq .l (.seq (.seq .l (.one (.loop [(1, .int .i64), (5, .int .i64)] (.seq (.seq .l (.two .l .l)) (.seq (.one (.seq .l (.seq .l (.seq .l .l)))) .l))))) (.seq .l .l)))

theorem laws_markWarpS.con {xs0 : List D.Warp} {A0 : OA} {c0 : Nat} {F0 : Nat → Prop} {x1 : Int} {r : Int × (List D.Warp)} {w : World} (hp : M.laws_markWarpS_pre xs0 x1) (hr : r = M.laws_markWarpS xs0 x1) (O1 : OwnW 52 el91 el3 w 0 F0 A0 c0 xs0) :
    Cl 56 #[(sv A0 xs0.length c0), (iv x1)] w (fun v_ w_ => v_ = (iv r.1) ∧ OwnW 52 el91 el3 w_ 0 F0 A0 c0 r.2 ∧ r.2.length = xs0.length ∧ Chg (InW A0 F0) w w_) := by
 have H := wp.laws_markWarpS.math xs0 x1 hp
 have hB := Chg.refl (InW A0 F0) w
 refine begK mixed Tryz.f56 ann (vc A0 xs0.length c0 x1) ?_
 unfold vc
 unfold wp.laws_markWarpS at H
 obtain ⟨J78, ⟨m132, hJ131⟩, hS79⟩ := H
 refine ⟨fun m_ z_ w_ => ∃ (i72 i73 : Int) (xs74 : List D.Warp), z_ = (i72, i73, ()) ∧ J78 m_ (i72, i73, xs74, ()) ∧ Chg (InW A0 F0) w w_ ∧ OwnW 52 el91 el3 w_ 0 F0 A0 c0 xs74 ∧ xs0.length = xs74.length, ⟨m132, x1, 0, xs0, rfl, hJ131, hB, O1, (by first | rfl | assumption | omega | (simp; done) | (simp; omega) | (simp; assumption))⟩, ?_⟩
 rintro m77 _ w81 ⟨i72, i73, xs74, rfl, hJ133, hB, O1, hn76⟩
 have H := hS79 m77 _ hJ133
 clear hS79 hJ133
 try dsimp only at H ⊢
 refine brc H (fun h H => ?_) fun h H => ?_
 ·obtain ⟨⟨h0_85, h1_86⟩, H⟩ := H
  obtain ⟨a83, ha84, _⟩ := RowW.at O1.row h0_85 h1_86
  refine ⟨h0_85, (by first | exact h1_86 | omega | (simp at h1_86 ⊢; omega)), a83, ha84, ?_⟩
  refine OwnW.storeNum O1 ha84 h0_85 h1_86 i72 (by decide) (by decide) (fun w87 O1 e88 hb89 => ?_)
  have hB := hB.chgb e88 (Or.inr (Or.inl ⟨_, ha84, rfl⟩))
  obtain ⟨⟨h0_93, h1_94⟩, H⟩ := H
  obtain ⟨a91, ha92, _⟩ := RowW.at O1.row h0_93 h1_94
  refine ⟨h0_93, (by first | exact h1_94 | omega | (simp at h1_94 ⊢; omega)), a91, ha92, ?_⟩
  obtain ⟨A98, c99, A100, c101, f95, f96, f97⟩ := OwnW.cellsAt O1 ha92 h0_93 h1_94
  have C4 := f96
  refine ⟨_, _, _, f96, ?_⟩
  obtain ⟨U4, V4, W4⟩ := OwnW.sub1 O1 ha92 h0_93 h1_94 C4
  obtain ⟨hp104, H⟩ := H
  obtain ⟨r102, hr103, H⟩ := callO H
  refine (cllA (laws_markFrameS.con hp104 hr103 (U4.mono (Nat.zero_le _)))).mono ?_
  rintro _ w105 ⟨rfl, Q4, hl107, e106⟩
  have O1 := W4 _ _ e106 Q4 hl107
  refine ⟨r102.1, rfl, ?_⟩
  obtain ⟨⟨h0_111, h1_112⟩, H⟩ := H
  obtain ⟨a109, ha110, _⟩ := RowW.at O1.row h0_111 h1_112
  refine ⟨h0_111, (by first | exact h1_112 | omega | (simp at h1_112 ⊢; omega)), a109, ha110, ?_⟩
  obtain ⟨A116, c117, A118, c119, f113, f114, f115⟩ := OwnW.cellsAt O1 ha110 h0_111 h1_112
  have C5 := f115
  refine ⟨_, _, _, f115, ?_⟩
  obtain ⟨U5, V5, W5⟩ := OwnW.sub2 O1 ha110 h0_111 h1_112 C5
  obtain ⟨hp122, H⟩ := H
  obtain ⟨r120, hr121, H⟩ := callO H
  refine (cllA (laws_markIntS.con hp122 hr121 (U5.mono (Nat.zero_le _)))).mono ?_
  rintro _ w123 ⟨rfl, Q5, hl125, e124⟩
  have hB := (hB.chg e106 (fun g h_ => Or.inr (Or.inr (V4 g h_)))).chg e124 (fun g h_ => Or.inr (Or.inr (V5 g h_)))
  have O1 := W5 _ _ e124 Q5 hl125
  refine ⟨r120.1, rfl, ?_⟩
  obtain ⟨m126, hm127, hJ128⟩ := H
  exact ⟨m126, hm127, _, _, _, rfl, hJ128, hB, O1, (by first | rfl | assumption | omega | (simp; done) | (simp; omega) | (simp; assumption))⟩
 cases hr.trans H.symm
 exact ⟨rfl, O1, (by first | (simp only [bC, wC, List.length_set]; done) | (simp only [bC, wC, List.length_set, ← hn76]; done) | (simp; done) | (simp; omega) | omega), hB⟩
def laws_markBlock.vc (A0_0 : OA) (n0_0 c0_0 : Nat) (A0_1 : OA) (n0_1 c0_1 : Nat) (A0_2 : OA) (n0_2 c0_2 : Nat) (x0_3 x0_4 x1 : Int) (w : World) (K : VK) : Prop :=
  newK w (.cells (vB A0_0 n0_0 c0_0 A0_1 n0_1 c0_1 A0_2 n0_2 c0_2 x0_3 x0_4) 33) fun g21 w22 => ldS w22 (((bx g21).add 0).add 0) fun A23 n24 c25 => Cl 55 #[(sv A23 n24 c25), (iv x1)] w22 fun v26 w27 => (∃ (n28 : Int), v26 = (iv n28) ∧ ldS w27 (((bx g21).add 1).add 0) fun A29 n30 c31 => Cl 56 #[(sv A29 n30 c31), (iv n28)] w27 fun v32 w33 => (∃ (n34 : Int), v32 = (iv n34) ∧ ldS w33 (((bx g21).add 2).add 0) fun A35 n36 c37 => Cl 57 #[(sv A35 n36 c37), (iv n34)] w33 fun v38 w39 => (∃ (n40 : Int), v38 = (iv n40) ∧ K (iv n40) w39)))

def laws_markBlock.ann : Ann := (.seq .l (.seq .l (.seq .l (.seq .l (.seq .l .l)))))

theorem laws_markBlock.con {s0 : D.Block} {A0_0 A0_1 A0_2 : OA} {c0_0 c0_1 c0_2 : Nat} {F0_1 : Nat → Prop} {x1 : Int} {r : Int × (List D.Ins) × (List D.Warp) × (List Int)} {w : World} (hp : M.laws_markBlock_pre s0 x1) (hr : r = M.laws_markBlock s0 x1) (O1 : Own el84 w 0 A0_0 c0_0 s0.Code) (O2 : OwnW 52 el91 el3 w 0 F0_1 A0_1 c0_1 s0.Warps) (O3 : Own el3 w 0 A0_2 c0_2 s0.Memory) (N2_3 : Dis (InW A0_1 F0_1) (InB A0_2)) :
    Cl 15 #[(.agg (bC A0_0 c0_0 A0_1 c0_1 A0_2 c0_2 s0)), (iv x1)] w (fun v_ w_ => v_ = (iv r.1) ∧ Own el84 w_ 0 A0_0 c0_0 r.2.1 ∧ r.2.1.length = s0.Code.length ∧ OwnW 52 el91 el3 w_ 0 F0_1 A0_1 c0_1 r.2.2.1 ∧ r.2.2.1.length = s0.Warps.length ∧ Own el3 w_ 0 A0_2 c0_2 r.2.2.2 ∧ r.2.2.2.length = s0.Memory.length ∧ Chg (fun k_ => InB A0_0 k_ ∨ InW A0_1 F0_1 k_ ∨ InB A0_2 k_) w w_) := by
 have H := wp.laws_markBlock.math s0 x1 hp
 refine begK mixed Tryz.f15 ann (vc A0_0 s0.Code.length c0_0 A0_1 s0.Warps.length c0_1 A0_2 s0.Memory.length c0_2 s0.Waiting s0.Phase x1) ?_
 unfold vc
 unfold wp.laws_markBlock at H
 refine newBlk (fun g4_ w21 L4 O4 e22 => ?_)
 have N1_4 := O1.apart_new L4
 have N2_4 := O2.dis_newbox L4
 have O1 := O1.ext e22
 have O2 := O2.ext e22
 have O3 := O3.ext e22
 refine ⟨_, _, _, (O4.a 0), ?_⟩
 obtain ⟨hp25, H⟩ := H
 obtain ⟨r23, hr24, H⟩ := callO H
 refine (laws_markInsS.con hp25 hr24 (O1.mono (Nat.zero_le _))).mono ?_
 rintro _ w26 ⟨rfl, Q1, hl28, e27⟩
 have O2 := O2.kept e27 (O2.dis_type O1 (by decide) (by decide) (by decide))
 have O3 := O3.chgS e27 ((Own.apart2_type O3 O1 (by decide))).inb
 have O4 := O4.chgS e27 (N1_4).inb
 have O1 := Q1
 refine ⟨r23.1, rfl, _, _, _, (O4.a 1), ?_⟩
 obtain ⟨hp31, H⟩ := H
 obtain ⟨r29, hr30, H⟩ := callO H
 refine (laws_markWarpS.con hp31 hr30 (O2.mono (Nat.zero_le _))).mono ?_
 rintro _ w32 ⟨rfl, Q2, hl34, e33⟩
 have O1 := O1.chgS e33 ((O2.dis_type O1 (by decide) (by decide) (by decide))).symm
 have O3 := O3.chgS e33 (N2_3).symm
 have O4 := O4.chgS e33 N2_4
 refine ⟨r29.1, rfl, _, _, _, (O4.a 2), ?_⟩
 obtain ⟨hp37, H⟩ := H
 obtain ⟨r35, hr36, H⟩ := callO H
 refine (laws_markIntS.con hp37 hr36 (O3.mono (Nat.zero_le _))).mono ?_
 rintro _ w38 ⟨rfl, Q3, hl40, e39⟩
 have O1 := O1.chgS e39 ((Own.apart2_type O1 O3 (by decide))).inb
 have O2 := Q2.kept e39 N2_3
 have hB := ((((Chg.refl (fun k_ => InB A0_0 k_ ∨ InW A0_1 F0_1 k_ ∨ InB A0_2 k_) w).then e22).chg e27 (fun g h_ => (Or.inr (Or.inl h_)))).chg e33 (fun g h_ => (Or.inr (Or.inr (Or.inl h_))))).chg e39 (fun g h_ => (Or.inr (Or.inr (Or.inr h_))))
 have O3 := Q3
 refine ⟨r35.1, rfl, ?_⟩
 cases hr.trans H.symm
 exact ⟨rfl, O1, (by first | (simp only [bC, wC, List.length_set]; done) | (simp only [bC, wC, List.length_set, hl28]; done) | (simp; done) | (simp; omega) | omega), O2, (by first | (simp only [bC, wC, List.length_set]; done) | (simp only [bC, wC, List.length_set, hl34]; done) | (simp; done) | (simp; omega) | omega), O3, (by first | (simp only [bC, wC, List.length_set]; done) | (simp only [bC, wC, List.length_set, hl40]; done) | (simp; done) | (simp; omega) | omega), hB⟩
def impl_Warp_lane.vc (x0_0 : Int) (A0_1 : OA) (n0_1 c0_1 : Nat) (A0_2 : OA) (n0_2 c0_2 : Nat) (x1 : Int) (w : World) (K : VK) : Prop :=
  newK w (.cells #[(iv x0_0), (sv A0_1 n0_1 c0_1), (sv A0_2 n0_2 c0_2)] 52) fun g21 w22 => ldS w22 (((bx g21).add 2).add 0) fun A23 n24 c25 => ((0 : Int) ≤ (wrap .i64 ((wrap .i64 (x1 + 1)) * 4)) ∧ (wrap .i64 ((wrap .i64 (x1 + 1)) * 4)) ≤ ((c25 : Nat) : Int) ∧ ((0 : Int) ≤ (wrap .i64 (x1 * 4)) ∧ (wrap .i64 (x1 * 4)) ≤ ((((wrap .i64 ((wrap .i64 (x1 + 1)) * 4)).toNat) : Nat) : Int) ∧ K (sv (if c25 = ((wrap .i64 (x1 * 4)).toNat) then A23 else A23.map (·.add (((wrap .i64 (x1 * 4)).toNat) * szOf Tryz.prog 3))) (((wrap .i64 ((wrap .i64 (x1 + 1)) * 4)).toNat) - ((wrap .i64 (x1 * 4)).toNat)) (c25 - ((wrap .i64 (x1 * 4)).toNat))) w22))

def impl_Warp_lane.ann : Ann := (.seq .l (.seq .l .l))

theorem impl_Warp_lane.vc_eq (x0_0 : Int) (A0_1 : OA) (n0_1 c0_1 : Nat) (A0_2 : OA) (n0_2 c0_2 : Nat) (x1 : Int) (w : World) (K : Value → World → Prop) : vcF Tryz.prog Tryz.f107 impl_Warp_lane.ann [(.agg #[(iv x0_0), (sv A0_1 n0_1 c0_1), (sv A0_2 n0_2 c0_2)]), (iv x1)] K w = impl_Warp_lane.vc x0_0 A0_1 n0_1 c0_1 A0_2 n0_2 c0_2 x1 w K := by kernel_rfl

theorem impl_Warp_lane.start {x0_0 : Int} {A0_1 : OA} {n0_1 c0_1 : Nat} {A0_2 : OA} {n0_2 c0_2 : Nat} {x1 : Int} {w : World} {K : Value → World → Prop} (h : impl_Warp_lane.vc x0_0 A0_1 n0_1 c0_1 A0_2 n0_2 c0_2 x1 w K) : Cl 107 #[(.agg #[(iv x0_0), (sv A0_1 n0_1 c0_1), (sv A0_2 n0_2 c0_2)]), (iv x1)] w K :=
  vcF_sound mixed (fn := Tryz.f107) (by kernel_rfl) (by kernel_rfl) (an := impl_Warp_lane.ann) (args := [(.agg #[(iv x0_0), (sv A0_1 n0_1 c0_1), (sv A0_2 n0_2 c0_2)]), (iv x1)]) (by rw [impl_Warp_lane.vc_eq]; exact h)
end Go.V
set_option linter.unusedVariables false
set_option linter.unusedSimpArgs false
set_option maxRecDepth 100000
namespace Go.V
open IntKind (wrap)
open Go.Proofs
/-- a lane's registers: a cut of the warp's -/
theorem impl_Warp_lane.con {s0 : D.Warp} {A0_1 : Option Addr} {c0_1 : Nat} {A0_2 : Option Addr} {c0_2 : Nat} {x1 : Int} {w : World} (hp : M.impl_Warp_lane_pre s0 x1) (R0_1 : Row el91 w A0_1 s0.Frames) (hc0_1 : s0.Frames.length ≤ c0_1) (R0_2 : Row el3 w A0_2 s0.Regs) (hc0_2 : s0.Regs.length ≤ c0_2) :
    Cll Tryz.prog 107 #[(.agg #[(.int .i64 s0.Number), (.slice A0_1 s0.Frames.length c0_1), (.slice A0_2 s0.Regs.length c0_2)]), (.int .i64 x1)] w (fun v_ w_ => v_ = (.slice (cutA c0_2 ((IntKind.wrap .i64 (x1 * 4)).toNat) A0_2 1) (List.drop ((IntKind.wrap .i64 (x1 * 4)).toNat) (List.take ((IntKind.wrap .i64 ((IntKind.wrap .i64 (x1 + 1)) * 4)).toNat) s0.Regs)).length (c0_2 - (IntKind.wrap .i64 (x1 * 4)).toNat)) ∧ Ext w w_) := by
  obtain ⟨h32, h0, h7⟩ := hp
  refine impl_Warp_lane.start ?_
  unfold impl_Warp_lane.vc
  refine newBlk fun g w1 L P e => ?_
  have a1 : IntKind.wrap .i64 (x1 * 4) = x1 * 4 := w64 (by omega) (by omega)
  have a2 : IntKind.wrap .i64 ((IntKind.wrap .i64 (x1 + 1)) * 4) = x1 * 4 + 4 := by rw [w64 (x := x1 + 1) (by omega) (by omega), w64 (by omega) (by omega)]; omega
  refine ⟨_, _, _, P.at 2 rfl rfl, ?_⟩
  rw [a1, a2]
  refine ⟨by omega, by omega, by omega, by omega, ?_, e⟩
  have hl : (List.drop (x1 * 4).toNat (List.take (x1 * 4 + 4).toNat s0.Regs)).length = (x1 * 4 + 4).toNat - (x1 * 4).toNat := by simp; omega
  rw [hl]
  have hz : szOf Tryz.prog 3 = 1 := by kernel_rfl
  rw [hz]
  rfl
theorem impl_Warp_lane.cut {x : D.Warp} {l : Int} (h : M.impl_Warp_lane_pre x l) : (IntKind.wrap .i64 (l * 4)).toNat ≤ (List.take ((IntKind.wrap .i64 ((IntKind.wrap .i64 (l + 1)) * 4)).toNat) x.Regs).length := by
  obtain ⟨h1, h2, h3⟩ := h
  rw [w64 (x := l * 4) (by omega) (by omega), w64 (x := l + 1) (by omega) (by omega), w64 (by omega) (by omega), List.length_take]
  omega
def spec_ActiveMask.vc (x0_0 : Int) (A0_1 : OA) (n0_1 c0_1 : Nat) (A0_2 : OA) (n0_2 c0_2 : Nat) (w : World) (K : VK) : Prop :=
  newK w (.cells #[(iv x0_0), (sv A0_1 n0_1 c0_1), (sv A0_2 n0_2 c0_2)] 52) fun g21 w22 => ldS w22 (((bx g21).add 1).add 0) fun A23 n24 c25 => bcase (((n24 : Nat) : Int) == 0) (K (iv 0) w22) (ldS w22 (((bx g21).add 1).add 0) fun A26 n27 c28 => ldS w22 (((bx g21).add 1).add 0) fun A29 n30 c31 => (idx (wrap .i64 (((n30 : Nat) : Int) - 1)) n27 A26 fun a32 => ldI w22 (((a32.add (((wrap .i64 (((n30 : Nat) : Int) - 1)).toNat) * 3)).add 2).add 0) fun n33 => K (iv n33) w22))

def spec_ActiveMask.ann : Ann := (.seq .l (.seq (.seq .l (.two (.seq .l .l) .l)) (.seq .l .l)))

theorem spec_ActiveMask.con {s0 : D.Warp} {A0_1 A0_2 : OA} {c0_1 c0_2 : Nat} {r : Int} {w : World} (hp : M.spec_ActiveMask_pre s0) (hr : r = M.spec_ActiveMask s0) (R0_1 : Row el91 w A0_1 s0.Frames) (hc0_1 : s0.Frames.length ≤ c0_1) (R0_2 : Row el3 w A0_2 s0.Regs) (hc0_2 : s0.Regs.length ≤ c0_2) :
    Cl 100 #[(.agg (wC A0_1 c0_1 A0_2 c0_2 s0))] w (fun v_ w_ => v_ = (iv r) ∧ Ext w w_) := by
 have H := wp.spec_ActiveMask.math s0 hp
 refine begK mixed Tryz.f100 ann (vc s0.Number A0_1 s0.Frames.length c0_1 A0_2 s0.Regs.length c0_2) ?_
 unfold vc
 unfold wp.spec_ActiveMask at H
 refine newBlk (fun g3_ w21 L3 O3 e22 => ?_)
 have hB := ethen (Ext.refl w) e22
 refine ⟨_, _, _, (O3.a 1), ?_⟩
 refine brc H (fun h H => ?_) fun h H => ?_
 ·cases hr.trans H.symm
  exact ⟨rfl, hB⟩
 refine ⟨_, _, _, (O3.a 1), _, _, _, (O3.a 1), ?_⟩
 obtain ⟨⟨h0_26, h1_27⟩, H⟩ := H
 obtain ⟨a24, ha25, hat23⟩ := Row.at (R0_1.ext hB) h0_26 h1_27
 refine ⟨h0_26, h1_27, a24, ha25, _, (hat23 2 _ rfl), ?_⟩
 cases hr.trans H.symm
 exact ⟨rfl, hB⟩
def spec_ZeroMask.vc (x0_0 : Int) (A0_1 : OA) (n0_1 c0_1 : Nat) (A0_2 : OA) (n0_2 c0_2 : Nat) (x1 : Int) (w : World) (K : VK) : Prop :=
  newK w (.cells #[(iv x0_0), (sv A0_1 n0_1 c0_1), (sv A0_2 n0_2 c0_2)] 52) fun g21 w22 => Cl 220 #[(iv x1)] w22 fun v24 w25 => (∃ (b26 : Bool), v24 = (.bool b26) ∧ bcase (!b26) (K (iv 0) w25) (ldS w25 (((bx g21).add 2).add 0) fun A27 n28 c29 => bcase (((n28 : Nat) : Int) != 32) (K (iv 0) w25) (LoopT (σ := Int × Int × Unit) (fun z30 w31 next32 => bcase (decide (z30.2.1 < 8)) (ldI w31 ((bx g21).add 0) fun n33 => ldS w31 ((bx g21).add 1) fun A34 n35 c36 => ldS w31 ((bx g21).add 2) fun A37 n38 c39 => Cl 100 #[(.agg #[(iv n33), (sv A34 n35 c36), (sv A37 n38 c39)])] w31 fun v40 w41 => (∃ (n42 : Int), v40 = (iv n42) ∧ Cl 101 #[(iv n42), (iv z30.2.1)] w41 fun v43 w44 => (∃ (b45 : Bool), v43 = (.bool b45) ∧ bcase b45 (ldS w44 (((bx g21).add 2).add 0) fun A46 n47 c48 => (idx (wrap .i64 ((wrap .i64 (z30.2.1 * 4)) + x1)) n47 A46 fun a49 => ldI w44 ((a49.add (((wrap .i64 ((wrap .i64 (z30.2.1 * 4)) + x1)).toNat) * 1)).add 0) fun n50 => bcase (n50 == 0) (((0 : Int) ≤ z30.2.1 ∧ next32 ((bitOr .i64 z30.1 (wrap .i64 (1 * 2 ^ (min (z30.2.1.toNat) (IntKind.bits .i64))))), (wrap .i64 (z30.2.1 + 1)), ()) w44)) (next32 (z30.1, (wrap .i64 (z30.2.1 + 1)), ()) w44))) (next32 (z30.1, (wrap .i64 (z30.2.1 + 1)), ()) w44)))) (K (iv z30.1) w31)) (0, 0, ()) w25)))

def spec_ZeroMask.ann : Ann := (.seq .l (.seq (.seq .l (.two (.seq .l .l) .l)) (.seq .l (.seq (.seq .l (.one (.loop [(5, .int .i64), (6, .int .i64)] (.seq (.seq .l (.two .l .l)) (.seq (.one (.seq .l (.two .l .l))) .l))))) (.seq .l .l)))))

theorem spec_ZeroMask.con {s0 : D.Warp} {A0_1 A0_2 : OA} {c0_1 c0_2 : Nat} {x1 r : Int} {w : World} (hp : M.spec_ZeroMask_pre s0 x1) (hr : r = M.spec_ZeroMask s0 x1) (R0_1 : Row el91 w A0_1 s0.Frames) (hc0_1 : s0.Frames.length ≤ c0_1) (R0_2 : Row el3 w A0_2 s0.Regs) (hc0_2 : s0.Regs.length ≤ c0_2) :
    Cl 205 #[(.agg (wC A0_1 c0_1 A0_2 c0_2 s0)), (iv x1)] w (fun v_ w_ => v_ = (iv r) ∧ Ext w w_) := by
 have H := wp.spec_ZeroMask.math s0 x1 hp
 refine begK mixed Tryz.f205 ann (vc s0.Number A0_1 s0.Frames.length c0_1 A0_2 s0.Regs.length c0_2 x1) ?_
 unfold vc
 unfold wp.spec_ZeroMask at H
 refine newBlk (fun g3_ w21 L3 O3 e22 => ?_)
 obtain ⟨r23, hr24, H⟩ := callO H
 refine (spec_l04Reg.con hr24 ).mono ?_
 rintro _ w26 ⟨rfl, e27⟩
 have O3 := O3.ext e27
 have hB := ethen (ethen (Ext.refl w) e22) e27
 refine ⟨r23, rfl, ?_⟩
 refine brc H (fun h H => ?_) fun h H => ?_
 ·cases hr.trans H.symm
  exact ⟨rfl, hB⟩
 refine ⟨_, _, _, (O3.a 2), ?_⟩
 refine brc H (fun h H => ?_) fun h H => ?_
 ·cases hr.trans H.symm
  exact ⟨rfl, hB⟩
 obtain ⟨J31, ⟨m65, hJ64⟩, hS32⟩ := H
 refine ⟨fun m_ z_ w_ => ∃ (i28 i29 : Int), z_ = (i28, i29, ()) ∧ J31 m_ (i28, i29, ()) ∧ Ext w w_ ∧ Blk w_ g3_ 52 (wC A0_1 c0_1 A0_2 c0_2 s0), ⟨m65, 0, 0, rfl, hJ64, hB, O3⟩, ?_⟩
 rintro m30 _ w34 ⟨i28, i29, rfl, hJ66, hB, O3⟩
 have H := hS32 m30 _ hJ66
 clear hS32 hJ66
 try dsimp only at H ⊢
 refine brc H (fun h H => ?_) fun h H => ?_
 ·refine ⟨_, (O3.a 0), _, _, _, (O3.a 1), _, _, _, (O3.a 2), ?_⟩
  obtain ⟨hp37, H⟩ := H
  obtain ⟨r35, hr36, H⟩ := callO H
  refine (spec_ActiveMask.con hp37 hr36 (R0_1.ext hB) hc0_1 (R0_2.ext hB) hc0_2).mono ?_
  rintro _ w38 ⟨rfl, e39⟩
  refine ⟨r35, rfl, ?_⟩
  obtain ⟨r40, hr41, H⟩ := callO H
  refine (spec_HasLane.con hr41 ).mono ?_
  rintro _ w43 ⟨rfl, e44⟩
  have O3 := (O3.ext e39).ext e44
  have hB := ethen (ethen hB e39) e44
  refine ⟨r40, rfl, ?_⟩
  refine brc H (fun h H => ?_) fun h H => ?_
  ·refine ⟨_, _, _, (O3.a 2), ?_⟩
   obtain ⟨⟨h0_48, h1_49⟩, H⟩ := H
   obtain ⟨a46, ha47, hat45⟩ := Row.at (R0_2.ext hB) h0_48 h1_49
   refine ⟨h0_48, h1_49, a46, ha47, _, (hat45 0 _ rfl), ?_⟩
   refine brc H (fun h H => ?_) fun h H => ?_
   ·obtain ⟨hc50, H⟩ := H
    refine ⟨hc50, ?_⟩
    obtain ⟨m51, hm52, hJ53⟩ := H
    exact ⟨m51, hm52, _, _, rfl, hJ53, hB, O3⟩
   obtain ⟨m54, hm55, hJ56⟩ := H
   exact ⟨m54, hm55, i28, _, rfl, hJ56, hB, O3⟩
  obtain ⟨m58, hm59, hJ60⟩ := H
  exact ⟨m58, hm59, i28, _, rfl, hJ60, hB, O3⟩
 cases hr.trans H.symm
 exact ⟨rfl, hB⟩
def spec_l13Splits.vc (A0 : OA) (n0 c0 : Nat) (x1_0 : Int) (A1_1 : OA) (n1_1 c1_1 : Nat) (A1_2 : OA) (n1_2 c1_2 : Nat) (w : World) (K : VK) : Prop :=
  newK w (.cells #[(iv x1_0), (sv A1_1 n1_1 c1_1), (sv A1_2 n1_2 c1_2)] 52) fun g21 w22 => ldS w22 (((bx g21).add 1).add 0) fun A23 n24 c25 => ldS w22 (((bx g21).add 1).add 0) fun A26 n27 c28 => (idx (wrap .i64 (((n27 : Nat) : Int) - 1)) n24 A23 fun a29 => ldI w22 ((a29.add (((wrap .i64 (((n27 : Nat) : Int) - 1)).toNat) * 3)).add 0) fun n30 => ldI w22 ((a29.add (((wrap .i64 (((n27 : Nat) : Int) - 1)).toNat) * 3)).add 1) fun n31 => ldI w22 ((a29.add (((wrap .i64 (((n27 : Nat) : Int) - 1)).toNat) * 3)).add 2) fun n32 => newK w22 (.cells #[(iv 0), (iv 0), (iv 0)] 91) fun g33 w34 => stCells (bx g33) [(iv n30), (iv n31), (iv n32)] 0 w34 fun w35 => ldI w35 (((bx g33).add 0).add 0) fun n37 => (idx n37 n0 A0 fun a38 => ldI w35 (((a38.add ((n37.toNat) * 4)).add 0).add 0) fun n39 => bcase (n39 != 10) (K (.bool false) w35.drew) (ldI w35 (((bx g33).add 0).add 0) fun n40 => (idx n40 n0 A0 fun a41 => ldI w35 (((a41.add ((n40.toNat) * 4)).add 2).add 0) fun n42 => ldI w35 (((bx g33).add 0).add 0) fun n43 => bcase (n42 == (wrap .i64 (n43 + 1))) (K (.bool false) w35.drew) ((∃ M44 : Nat → Prop, ∃ (n45 : Int), (¬ M44 ((bx g21)).block ∧ w35.drew.cell? ((bx g21).add 0) = some (iv n45)) ∧ ∃ (A46 : OA) (n47 c48 : Nat), (¬ M44 ((bx g21)).block ∧ w35.drew.cell? ((bx g21).add 1) = some (sv A46 n47 c48)) ∧ ∃ (A49 : OA) (n50 c51 : Nat), (¬ M44 ((bx g21)).block ∧ w35.drew.cell? ((bx g21).add 2) = some (sv A49 n50 c51)) ∧ ∃ (n52 : Int), (¬ M44 (((bx g33).add 0)).block ∧ w35.drew.cell? (((bx g33).add 0).add 0) = some (iv n52)) ∧ (idx n52 n0 A0 fun a53 => ∃ (n54 : Int), (¬ M44 (((a53.add ((n52.toNat) * 4)).add 1)).block ∧ w35.drew.cell? (((a53.add ((n52.toNat) * 4)).add 1).add 0) = some (iv n54)) ∧ Cl 205 #[(.agg #[(iv n45), (sv A46 n47 c48), (sv A49 n50 c51)]), (iv n54)] w35.drew.drew fun v55 w56 => (∃ (n57 : Int), v55 = (iv n57) ∧ SameBut M44 w35.drew w56 ∧ bcase (n57 != 0) (ldI w56 (((bx g33).add 2).add 0) fun n58 => K (.bool (n57 != n58)) w56) (K (.bool false) w56)))))))))

def spec_l13Splits.ann : Ann := (.seq .l (.seq .l (.seq (.seq .l (.two (.seq .l .l) .l)) (.seq .l (.seq .l .l)))))

theorem spec_l13Splits.con {xs0 : List D.Ins} {A0 A1_1 A1_2 : OA} {c0 c1_1 c1_2 : Nat} {s1 : D.Warp} {r : Bool} {w : World} (hp : M.spec_l13Splits_pre xs0 s1) (hr : r = M.spec_l13Splits xs0 s1) (R0 : Row el84 w A0 xs0) (hc0 : xs0.length ≤ c0) (R1_1 : Row el91 w A1_1 s1.Frames) (hc1_1 : s1.Frames.length ≤ c1_1) (R1_2 : Row el3 w A1_2 s1.Regs) (hc1_2 : s1.Regs.length ≤ c1_2) :
    Cl 169 #[(sv A0 xs0.length c0), (.agg (wC A1_1 c1_1 A1_2 c1_2 s1))] w (fun v_ w_ => v_ = (.bool r) ∧ Ext w w_) := by
 have H := wp.spec_l13Splits.math xs0 s1 hp
 refine begK mixed Tryz.f169 ann (vc A0 xs0.length c0 s1.Number A1_1 s1.Frames.length c1_1 A1_2 s1.Regs.length c1_2) ?_
 unfold vc
 unfold wp.spec_l13Splits at H
 refine newBlk (fun g4_ w21 L4 O4 e22 => ?_)
 have hB := ethen (Ext.refl w) e22
 refine ⟨_, _, _, (O4.a 1), _, _, _, (O4.a 1), ?_⟩
 obtain ⟨⟨h0_26, h1_27⟩, H⟩ := H
 obtain ⟨a24, ha25, hat23⟩ := Row.at (R1_1.ext hB) h0_26 h1_27
 refine ⟨h0_26, h1_27, a24, ha25, _, (hat23 0 _ rfl), _, (hat23 1 _ rfl), _, (hat23 2 _ rfl), ?_⟩
 refine newSt #[(iv ((rd s1.Frames (wrap .i64 ((s1.Frames.length : Int) - 1))).Pc)), (iv ((rd s1.Frames (wrap .i64 ((s1.Frames.length : Int) - 1))).Stop)), (iv ((rd s1.Frames (wrap .i64 ((s1.Frames.length : Int) - 1))).Mask))] (fun g5_ w30 L5 O5 e31 => ?_)
 have O4 := O4.ext e31
 have hB := ethen hB e31
 refine ⟨_, (O5.a 0), ?_⟩
 obtain ⟨⟨h0_36, h1_37⟩, H⟩ := H
 obtain ⟨a34, ha35, hat33⟩ := Row.at (R0.ext hB) h0_36 h1_37
 refine ⟨h0_36, h1_37, a34, ha35, _, (hat33 0 _ rfl), ?_⟩
 refine brc H (fun h H => ?_) fun h H => ?_
 ·have hB := ethen hB (Ext.drew _)
  cases hr.trans H.symm
  exact ⟨rfl, hB⟩
 refine ⟨_, (O5.a 0), ?_⟩
 obtain ⟨⟨h0_41, h1_42⟩, H⟩ := H
 obtain ⟨a39, ha40, hat38⟩ := Row.at (R0.ext hB) h0_41 h1_42
 refine ⟨h0_41, h1_42, a39, ha40, _, (hat38 2 _ rfl), _, (O5.a 0), ?_⟩
 have O4 := O4.ext (Ext.drew _)
 have O5 := O5.ext (Ext.drew _)
 have hB := ethen hB (Ext.drew _)
 refine brc H (fun h H => ?_) fun h H => ?_
 ·cases hr.trans H.symm
  exact ⟨rfl, hB⟩
 refine ⟨(fun _ => False), _, noM (O4.a 0), _, _, _, noM (O4.a 1), _, _, _, noM (O4.a 2), _, noM (O5.a 0), ?_⟩
 obtain ⟨⟨h0_47, h1_48⟩, H⟩ := H
 obtain ⟨a45, ha46, hat44⟩ := Row.at (R0.ext hB) h0_47 h1_48
 refine ⟨h0_47, h1_48, a45, ha46, _, ⟨(fun h_ => h_), (hat44 1 _ rfl)⟩, ?_⟩
 have O5 := O5.ext (Ext.drew _)
 have hB := ethen hB (Ext.drew _)
 have hS43 := (Chg.refl (fun _ => False) w30.drew).then (Ext.drew _)
 obtain ⟨hp51, H⟩ := H
 obtain ⟨r49, hr50, H⟩ := callO H
 refine (spec_ZeroMask.con hp51 hr50 (R1_1.ext hB) hc1_1 (R1_2.ext hB) hc1_2).mono ?_
 rintro _ w52 ⟨rfl, e53⟩
 have O5 := O5.ext e53
 have hB := ethen hB e53
 have hS43 := hS43.then e53
 refine ⟨r49, rfl, sameBut_chg hS43, ?_⟩
 refine brc H (fun h H => ?_) fun h H => ?_
 ·refine ⟨_, (O5.a 2), ?_⟩
  cases hr.trans H.symm
  exact ⟨rfl, hB⟩
 cases hr.trans H.symm
 exact ⟨rfl, hB⟩
def spec_l13Local.vc (A0 : OA) (n0 c0 : Nat) (x1_0 : Int) (A1_1 : OA) (n1_1 c1_1 : Nat) (A1_2 : OA) (n1_2 c1_2 : Nat) (w : World) (K : VK) : Prop :=
  newK w (.cells #[(iv x1_0), (sv A1_1 n1_1 c1_1), (sv A1_2 n1_2 c1_2)] 52) fun g21 w22 => ldS w22 (((bx g21).add 1).add 0) fun A24 n25 c26 => bcase (((n25 : Nat) : Int) == 0) (K (.bool false) w22) (ldS w22 (((bx g21).add 1).add 0) fun A27 n28 c29 => ldS w22 (((bx g21).add 1).add 0) fun A30 n31 c32 => (idx (wrap .i64 (((n31 : Nat) : Int) - 1)) n28 A27 fun a33 => ldI w22 (((a33.add (((wrap .i64 (((n31 : Nat) : Int) - 1)).toNat) * 3)).add 0).add 0) fun n34 => (idx n34 n0 A0 fun a35 => ldI w22 ((a35.add ((n34.toNat) * 4)).add 0) fun n36 => ldI w22 ((a35.add ((n34.toNat) * 4)).add 1) fun n37 => ldI w22 ((a35.add ((n34.toNat) * 4)).add 2) fun n38 => ldI w22 ((a35.add ((n34.toNat) * 4)).add 3) fun n39 => Cl 124 #[(.agg #[(iv n36), (iv n37), (iv n38), (iv n39)])] w22 fun v40 w41 => (∃ (b42 : Bool), v40 = (.bool b42) ∧ bcase (!b42) (K (.bool false) w41) (ldI w41 ((bx g21).add 0) fun n43 => ldS w41 ((bx g21).add 1) fun A44 n45 c46 => ldS w41 ((bx g21).add 2) fun A47 n48 c49 => Cl 169 #[(sv A0 n0 c0), (.agg #[(iv n43), (sv A44 n45 c46), (sv A47 n48 c49)])] w41 fun v50 w51 => (∃ (b52 : Bool), v50 = (.bool b52) ∧ bcase (!b52) (K (.bool true) w51) (ldS w51 (((bx g21).add 1).add 0) fun A53 n54 c55 => K (.bool (decide (((n54 : Nat) : Int) ≤ 22))) w51)))))))

def spec_l13Local.ann : Ann := (.seq .l (.seq (.seq .l (.two (.seq .l .l) .l)) (.seq .l .l)))

theorem spec_l13Local.con {xs0 : List D.Ins} {A0 A1_1 A1_2 : OA} {c0 c1_1 c1_2 : Nat} {s1 : D.Warp} {r : Bool} {w : World} (hp : M.spec_l13Local_pre xs0 s1) (hr : r = M.spec_l13Local xs0 s1) (R0 : Row el84 w A0 xs0) (hc0 : xs0.length ≤ c0) (R1_1 : Row el91 w A1_1 s1.Frames) (hc1_1 : s1.Frames.length ≤ c1_1) (R1_2 : Row el3 w A1_2 s1.Regs) (hc1_2 : s1.Regs.length ≤ c1_2) :
    Cl 125 #[(sv A0 xs0.length c0), (.agg (wC A1_1 c1_1 A1_2 c1_2 s1))] w (fun v_ w_ => v_ = (.bool r) ∧ Ext w w_) := by
 have H := wp.spec_l13Local.math xs0 s1 hp
 refine begK mixed Tryz.f125 ann (vc A0 xs0.length c0 s1.Number A1_1 s1.Frames.length c1_1 A1_2 s1.Regs.length c1_2) ?_
 unfold vc
 unfold wp.spec_l13Local at H
 refine newBlk (fun g4_ w21 L4 O4 e22 => ?_)
 have hB := ethen (Ext.refl w) e22
 refine ⟨_, _, _, (O4.a 1), ?_⟩
 refine brc H (fun h H => ?_) fun h H => ?_
 ·cases hr.trans H.symm
  exact ⟨rfl, hB⟩
 refine ⟨_, _, _, (O4.a 1), _, _, _, (O4.a 1), ?_⟩
 obtain ⟨⟨h0_26, h1_27⟩, H⟩ := H
 obtain ⟨a24, ha25, hat23⟩ := Row.at (R1_1.ext hB) h0_26 h1_27
 refine ⟨h0_26, h1_27, a24, ha25, _, (hat23 0 _ rfl), ?_⟩
 obtain ⟨⟨h0_31, h1_32⟩, H⟩ := H
 obtain ⟨a29, ha30, hat28⟩ := Row.at (R0.ext hB) h0_31 h1_32
 refine ⟨h0_31, h1_32, a29, ha30, _, (hat28 0 _ rfl), _, (hat28 1 _ rfl), _, (hat28 2 _ rfl), _, (hat28 3 _ rfl), ?_⟩
 obtain ⟨r33, hr34, H⟩ := callO H
 refine (spec_IsLocal.con hr34 ).mono ?_
 rintro _ w36 ⟨rfl, e37⟩
 have O4 := O4.ext e37
 have hB := ethen hB e37
 refine ⟨r33, rfl, ?_⟩
 refine brc H (fun h H => ?_) fun h H => ?_
 ·cases hr.trans H.symm
  exact ⟨rfl, hB⟩
 refine ⟨_, (O4.a 0), _, _, _, (O4.a 1), _, _, _, (O4.a 2), ?_⟩
 obtain ⟨hp40, H⟩ := H
 obtain ⟨r38, hr39, H⟩ := callO H
 refine (spec_l13Splits.con hp40 hr39 (R0.ext hB) hc0 (R1_1.ext hB) hc1_1 (R1_2.ext hB) hc1_2).mono ?_
 rintro _ w41 ⟨rfl, e42⟩
 have O4 := O4.ext e42
 have hB := ethen hB e42
 refine ⟨r38, rfl, ?_⟩
 refine brc H (fun h H => ?_) fun h H => ?_
 ·cases hr.trans H.symm
  exact ⟨rfl, hB⟩
 refine ⟨_, _, _, (O4.a 1), ?_⟩
 cases hr.trans H.symm
 exact ⟨rfl, hB⟩
def spec_l30Can.vc (A0_0 : OA) (n0_0 c0_0 : Nat) (A0_1 : OA) (n0_1 c0_1 : Nat) (A0_2 : OA) (n0_2 c0_2 : Nat) (x0_3 x0_4 x1 : Int) (w : World) (K : VK) : Prop :=
  newK w (.cells (vB A0_0 n0_0 c0_0 A0_1 n0_1 c0_1 A0_2 n0_2 c0_2 x0_3 x0_4) 33) fun g21 w22 => ldS w22 (((bx g21).add 1).add 0) fun A23 n24 c25 => (idx x1 n24 A23 fun a26 => ldI w22 ((a26.add ((x1.toNat) * 3)).add 0) fun n27 => ldS w22 ((a26.add ((x1.toNat) * 3)).add 1) fun A28 n29 c30 => ldS w22 ((a26.add ((x1.toNat) * 3)).add 2) fun A31 n32 c33 => newK w22 (.cells #[(iv 0), (sv none 0 0), (sv none 0 0)] 52) fun g34 w35 => stCells (bx g34) [(iv n27), (sv A28 n29 c30), (sv A31 n32 c33)] 0 w35 fun w36 => ldS w36 (((bx g34).add 1).add 0) fun A38 n39 c40 => bcase (((n39 : Nat) : Int) == 0) (K (.bool false) w36) (ldI w36 (((bx g21).add 3).add 0) fun n41 => ((0 : Int) ≤ x1 ∧ bcase ((bitAnd .i64 (Int.fdiv n41 (2 ^ (min (x1.toNat) (IntKind.bits .i64)))) 1) == 1) (K (.bool false) w36) (ldB w36 (bx g21) fun A42 n43 c44 A45 n46 c47 A48 n49 c50 n51 n52 => Cl 98 #[(.agg (vB A42 n43 c44 A45 n46 c47 A48 n49 c50 n51 n52)), (iv x1)] w36 fun v53 w54 => (∃ (n55 : Int), True ∧ ∃ (n56 : Int), True ∧ ∃ (n57 : Int), True ∧ ∃ (n58 : Int), True ∧ v53 = (.agg #[(iv n55), (iv n56), (iv n57), (iv n58)]) ∧ newK w54 (.cells #[(iv 0), (iv 0), (iv 0), (iv 0)] 84) fun g59 w60 => stCells (bx g59) [(iv n55), (iv n56), (iv n57), (iv n58)] 0 w60 fun w61 => ldI w61 ((bx g59).add 0) fun n62 => ldI w61 ((bx g59).add 1) fun n63 => ldI w61 ((bx g59).add 2) fun n64 => ldI w61 ((bx g59).add 3) fun n65 => Cl 124 #[(.agg #[(iv n62), (iv n63), (iv n64), (iv n65)])] w61 fun v66 w67 => (∃ (b68 : Bool), v66 = (.bool b68) ∧ bcase b68 (ldS w67 (((bx g21).add 0).add 0) fun A69 n70 c71 => ldI w67 ((bx g34).add 0) fun n72 => ldS w67 ((bx g34).add 1) fun A73 n74 c75 => ldS w67 ((bx g34).add 2) fun A76 n77 c78 => Cl 125 #[(sv A69 n70 c71), (.agg #[(iv n72), (sv A73 n74 c75), (sv A76 n77 c78)])] w67 fun v79 w80 => (∃ (b81 : Bool), v79 = (.bool b81) ∧ K (.bool b81) w80)) (ldI w67 (((bx g59).add 0).add 0) fun n82 => bcase (n82 != 16) (K (.bool true) w67) (ldS w67 (((bx g34).add 1).add 0) fun A83 n84 c85 => K (.bool (((n84 : Nat) : Int) == 1)) w67))))))))

def spec_l30Can.ann : Ann := (.seq .l (.seq .l (.seq (.seq .l (.two (.seq .l .l) .l)) (.seq .l (.seq (.seq .l (.two (.seq .l .l) .l)) (.seq .l .l))))))

theorem spec_l30Can.con {s0 : D.Block} {A0_0 A0_1 A0_2 : OA} {c0_0 c0_1 c0_2 : Nat} {x1 : Int} {r : Bool} {w : World} (hp : M.spec_l30Can_pre s0 x1) (hr : r = M.spec_l30Can s0 x1) (R0_0 : Row el84 w A0_0 s0.Code) (hc0_0 : s0.Code.length ≤ c0_0) (R0_1 : RowW 52 el91 el3 w A0_1 s0.Warps) (hc0_1 : s0.Warps.length ≤ c0_1) (R0_2 : Row el3 w A0_2 s0.Memory) (hc0_2 : s0.Memory.length ≤ c0_2) :
    Cl 64 #[(.agg (bC A0_0 c0_0 A0_1 c0_1 A0_2 c0_2 s0)), (iv x1)] w (fun v_ w_ => v_ = (.bool r) ∧ Ext w w_) := by
 have H := wp.spec_l30Can.math s0 x1 hp
 refine begK mixed Tryz.f64 ann (vc A0_0 s0.Code.length c0_0 A0_1 s0.Warps.length c0_1 A0_2 s0.Memory.length c0_2 s0.Waiting s0.Phase x1) ?_
 unfold vc
 unfold wp.spec_l30Can at H
 refine newBlk (fun g4_ w21 L4 O4 e22 => ?_)
 have hB := ethen (Ext.refl w) e22
 refine ⟨_, _, _, (O4.a 1), ?_⟩
 obtain ⟨⟨h0_26, h1_27⟩, H⟩ := H
 obtain ⟨a24, ha25, A31, c32, A33, c34, f28, f29, f30, R35, hle37, R36, hle38⟩ := RowW.at R0_1 h0_26 h1_27
 refine ⟨h0_26, h1_27, a24, ha25, _, (Ext.cell hB f28), _, _, _, (Ext.cell hB f29), _, _, _, (Ext.cell hB f30), ?_⟩
 refine newBlk (fun g7_ w39 L7 P7 e40 => ?_)
 have N4_7 := O4.ne L7
 have O4 := O4.ext e40
 have O7 := P7
 have L7 := Nat.le_trans hB.size L7
 have hB := ethen hB e40
 refine stBlk O7 (o := 0) (cs' := #[(iv ((rd s0.Warps x1).Number)), (sv A31 ((rd s0.Warps x1).Frames.length) c32), (sv A33 ((rd s0.Warps x1).Regs.length) c34)]) rfl rfl (Nat.le_of_ble_eq_true rfl) rfl (fun w41 O7 e42 => ?_)
 have O4_ := O4.chg e42 N4_7
 have O4 := O4_
 have hB := echg hB e42 L7
 refine ⟨_, _, _, (O7.a 1), ?_⟩
 refine brc H (fun h H => ?_) fun h H => ?_
 ·cases hr.trans H.symm
  exact ⟨rfl, hB⟩
 refine ⟨_, (O4.a 3), ?_⟩
 obtain ⟨hc43, H⟩ := H
 refine ⟨hc43, ?_⟩
 refine brc H (fun h H => ?_) fun h H => ?_
 ·cases hr.trans H.symm
  exact ⟨rfl, hB⟩
 refine ⟨_, _, _, (O4.a 0), _, _, _, (O4.a 1), _, _, _, (O4.a 2), _, (O4.a 3), _, (O4.a 4), ?_⟩
 obtain ⟨hp46, H⟩ := H
 obtain ⟨r44, hr45, H⟩ := callO H
 refine (spec_l30Next.con hp46 hr45 (R0_0.ext hB) hc0_0 (R0_1.ext hB) hc0_1 (R0_2.ext hB) hc0_2).mono ?_
 rintro _ w47 ⟨rfl, e48⟩
 refine ⟨r44.Op, trivial, r44.A, trivial, r44.B, trivial, r44.C, trivial, rfl, ?_⟩
 refine newSt (iC r44) (fun g8_ w51 L8 O8 e52 => ?_)
 refine ⟨_, (O8.a 0), _, (O8.a 1), _, (O8.a 2), _, (O8.a 3), ?_⟩
 obtain ⟨r53, hr54, H⟩ := callO H
 refine (spec_IsLocal.con hr54 ).mono ?_
 rintro _ w56 ⟨rfl, e57⟩
 have O4 := ((O4.ext e48).ext e52).ext e57
 have O7 := ((O7.ext e48).ext e52).ext e57
 have O8 := O8.ext e57
 have hB := ethen (ethen (ethen hB e48) e52) e57
 refine ⟨r53, rfl, ?_⟩
 refine brc H (fun h H => ?_) fun h H => ?_
 ·refine ⟨_, _, _, (O4.a 0), _, (O7.a 0), _, _, _, (O7.a 1), _, _, _, (O7.a 2), ?_⟩
  obtain ⟨hp60, H⟩ := H
  obtain ⟨r58, hr59, H⟩ := callO H
  refine (cllA (spec_l13Local.con hp60 hr59 (R0_0.ext hB) hc0_0 (R35.ext hB) hle37 (R36.ext hB) hle38)).mono ?_
  rintro _ w61 ⟨rfl, e62⟩
  have hB := ethen hB e62
  refine ⟨r58, rfl, ?_⟩
  cases hr.trans H.symm
  exact ⟨rfl, hB⟩
 refine ⟨_, (O8.a 0), ?_⟩
 refine brc H (fun h H => ?_) fun h H => ?_
 ·cases hr.trans H.symm
  exact ⟨rfl, hB⟩
 refine ⟨_, _, _, (O7.a 1), ?_⟩
 cases hr.trans H.symm
 exact ⟨rfl, hB⟩
def spec_CanStep.vc (A0_0 : OA) (n0_0 c0_0 : Nat) (A0_1 : OA) (n0_1 c0_1 : Nat) (A0_2 : OA) (n0_2 c0_2 : Nat) (x0_3 x0_4 x1 : Int) (w : World) (K : VK) : Prop :=
  newK w (.cells (vB A0_0 n0_0 c0_0 A0_1 n0_1 c0_1 A0_2 n0_2 c0_2 x0_3 x0_4) 33) fun g21 w22 => ldB w22 (bx g21) fun A23 n24 c25 A26 n27 c28 A29 n30 c31 n32 n33 => Cl 63 #[(.agg (vB A23 n24 c25 A26 n27 c28 A29 n30 c31 n32 n33)), (iv x1)] w22 fun v34 w35 => (∃ (b36 : Bool), v34 = (.bool b36) ∧ bcase b36 (ldB w35 (bx g21) fun A37 n38 c39 A40 n41 c42 A43 n44 c45 n46 n47 => Cl 64 #[(.agg (vB A37 n38 c39 A40 n41 c42 A43 n44 c45 n46 n47)), (iv x1)] w35 fun v48 w49 => (∃ (b50 : Bool), v48 = (.bool b50) ∧ K (.bool b50) w49)) (K (.bool false) w35))

def spec_CanStep.ann : Ann := (.seq .l (.seq .l .l))

theorem spec_CanStep.con {s0 : D.Block} {A0_0 A0_1 A0_2 : OA} {c0_0 c0_1 c0_2 : Nat} {x1 : Int} {r : Bool} {w : World} (hp : M.spec_CanStep_pre s0 x1) (hr : r = M.spec_CanStep s0 x1) (R0_0 : Row el84 w A0_0 s0.Code) (hc0_0 : s0.Code.length ≤ c0_0) (R0_1 : RowW 52 el91 el3 w A0_1 s0.Warps) (hc0_1 : s0.Warps.length ≤ c0_1) (R0_2 : Row el3 w A0_2 s0.Memory) (hc0_2 : s0.Memory.length ≤ c0_2) :
    Cl 22 #[(.agg (bC A0_0 c0_0 A0_1 c0_1 A0_2 c0_2 s0)), (iv x1)] w (fun v_ w_ => v_ = (.bool r) ∧ Ext w w_) := by
 have H := wp.spec_CanStep.math s0 x1 hp
 refine begK mixed Tryz.f22 ann (vc A0_0 s0.Code.length c0_0 A0_1 s0.Warps.length c0_1 A0_2 s0.Memory.length c0_2 s0.Waiting s0.Phase x1) ?_
 unfold vc
 unfold wp.spec_CanStep at H
 refine newBlk (fun g4_ w21 L4 O4 e22 => ?_)
 have hB := ethen (Ext.refl w) e22
 refine ⟨_, _, _, (O4.a 0), _, _, _, (O4.a 1), _, _, _, (O4.a 2), _, (O4.a 3), _, (O4.a 4), ?_⟩
 obtain ⟨hp25, H⟩ := H
 obtain ⟨r23, hr24, H⟩ := callO H
 refine (spec_l30Ok.con hp25 hr24 (R0_0.ext hB) hc0_0 (R0_1.ext hB) hc0_1 (R0_2.ext hB) hc0_2).mono ?_
 rintro _ w26 ⟨rfl, e27⟩
 have O4 := O4.ext e27
 have hB := ethen hB e27
 refine ⟨r23, rfl, ?_⟩
 refine brc H (fun h H => ?_) fun h H => ?_
 ·refine ⟨_, _, _, (O4.a 0), _, _, _, (O4.a 1), _, _, _, (O4.a 2), _, (O4.a 3), _, (O4.a 4), ?_⟩
  obtain ⟨hp30, H⟩ := H
  obtain ⟨r28, hr29, H⟩ := callO H
  refine (spec_l30Can.con hp30 hr29 (R0_0.ext hB) hc0_0 (R0_1.ext hB) hc0_1 (R0_2.ext hB) hc0_2).mono ?_
  rintro _ w31 ⟨rfl, e32⟩
  have hB := ethen hB e32
  refine ⟨r28, rfl, ?_⟩
  cases hr.trans H.symm
  exact ⟨rfl, hB⟩
 cases hr.trans H.symm
 exact ⟨rfl, hB⟩
def impl_ActiveMask.vc (x0_0 : Int) (A0_1 : OA) (n0_1 c0_1 : Nat) (A0_2 : OA) (n0_2 c0_2 : Nat) (w : World) (K : VK) : Prop :=
  newK w (.cells #[(iv x0_0), (sv A0_1 n0_1 c0_1), (sv A0_2 n0_2 c0_2)] 52) fun g21 w22 => ldS w22 (((bx g21).add 1).add 0) fun A23 n24 c25 => bcase (((n24 : Nat) : Int) == 0) (K (iv 0) w22) (ldS w22 (((bx g21).add 1).add 0) fun A26 n27 c28 => ldS w22 (((bx g21).add 1).add 0) fun A29 n30 c31 => (idx (wrap .i64 (((n30 : Nat) : Int) - 1)) n27 A26 fun a32 => ldI w22 (((a32.add (((wrap .i64 (((n30 : Nat) : Int) - 1)).toNat) * 3)).add 2).add 0) fun n33 => K (iv n33) w22))

def impl_ActiveMask.ann : Ann := (.seq .l (.seq (.seq .l (.two (.seq .l .l) .l)) (.seq .l .l)))

theorem impl_ActiveMask.con {s0 : D.Warp} {A0_1 A0_2 : OA} {c0_1 c0_2 : Nat} {r : Int} {w : World} (hp : M.impl_ActiveMask_pre s0) (hr : r = M.impl_ActiveMask s0) (R0_1 : Row el91 w A0_1 s0.Frames) (hc0_1 : s0.Frames.length ≤ c0_1) (R0_2 : Row el3 w A0_2 s0.Regs) (hc0_2 : s0.Regs.length ≤ c0_2) :
    Cl 106 #[(.agg (wC A0_1 c0_1 A0_2 c0_2 s0))] w (fun v_ w_ => v_ = (iv r) ∧ Ext w w_) := by
 have H := wp.impl_ActiveMask.math s0 hp
 refine begK mixed Tryz.f106 ann (vc s0.Number A0_1 s0.Frames.length c0_1 A0_2 s0.Regs.length c0_2) ?_
 unfold vc
 unfold wp.impl_ActiveMask at H
 refine newBlk (fun g3_ w21 L3 O3 e22 => ?_)
 have hB := ethen (Ext.refl w) e22
 refine ⟨_, _, _, (O3.a 1), ?_⟩
 refine brc H (fun h H => ?_) fun h H => ?_
 ·cases hr.trans H.symm
  exact ⟨rfl, hB⟩
 refine ⟨_, _, _, (O3.a 1), _, _, _, (O3.a 1), ?_⟩
 obtain ⟨⟨h0_26, h1_27⟩, H⟩ := H
 obtain ⟨a24, ha25, hat23⟩ := Row.at (R0_1.ext hB) h0_26 h1_27
 refine ⟨h0_26, h1_27, a24, ha25, _, (hat23 2 _ rfl), ?_⟩
 cases hr.trans H.symm
 exact ⟨rfl, hB⟩
def impl_Warp_zeroMask.vc (x0_0 : Int) (A0_1 : OA) (n0_1 c0_1 : Nat) (A0_2 : OA) (n0_2 c0_2 : Nat) (x1 : Int) (w : World) (K : VK) : Prop :=
  newK w (.cells #[(iv x0_0), (sv A0_1 n0_1 c0_1), (sv A0_2 n0_2 c0_2)] 52) fun g21 w22 => ldI w22 ((bx g21).add 0) fun n23 => ldS w22 ((bx g21).add 1) fun A24 n25 c26 => ldS w22 ((bx g21).add 2) fun A27 n28 c29 => Cl 106 #[(.agg #[(iv n23), (sv A24 n25 c26), (sv A27 n28 c29)])] w22 fun v30 w31 => (∃ (n32 : Int), v30 = (iv n32) ∧ Cl 105 #[(iv n32)] w31 fun v33 w34 => (∃ (A35 : OA) (n36 c37 : Nat), v33 = (sv A35 n36 c37) ∧ LoopT (σ := Int × Int × Unit) (fun z38 w39 next40 => bcase (decide (z38.2.1 < ((n36 : Nat) : Int))) ((idx z38.2.1 n36 A35 fun a41 => ldI w39 ((a41.add ((z38.2.1.toNat) * 1)).add 0) fun n42 => ldI w39 ((bx g21).add 0) fun n43 => ldS w39 ((bx g21).add 1) fun A44 n45 c46 => ldS w39 ((bx g21).add 2) fun A47 n48 c49 => Cl 107 #[(.agg #[(iv n43), (sv A44 n45 c46), (sv A47 n48 c49)]), (iv n42)] w39 fun v50 w51 => (∃ (A52 : OA) (n53 c54 : Nat), v50 = (sv A52 n53 c54) ∧ (idx x1 n53 A52 fun a55 => ldI w51 ((a55.add ((x1.toNat) * 1)).add 0) fun n56 => bcase (n56 == 0) (((0 : Int) ≤ n42 ∧ next40 ((bitOr .i64 z38.1 (wrap .i64 (1 * 2 ^ (min (n42.toNat) (IntKind.bits .i64))))), (wrap .i64 (z38.2.1 + 1)), ()) w51)) (next40 (z38.1, (wrap .i64 (z38.2.1 + 1)), ()) w51))))) (K (iv z38.1) w39)) (0, 0, ()) w34))

def impl_Warp_zeroMask.ann : Ann := (.seq .l (.seq .l (.seq (.seq .l (.one (.loop [(5, .int .i64), (12, .int .i64)] (.seq .l (.seq (.two .l .l) (.seq (.one (.seq .l (.seq .l (.two .l .l)))) .l)))))) (.seq .l .l))))

theorem impl_Warp_zeroMask.con {s0 : D.Warp} {A0_1 A0_2 : OA} {c0_1 c0_2 : Nat} {x1 r : Int} {w : World} (hp : M.impl_Warp_zeroMask_pre s0 x1) (hr : r = M.impl_Warp_zeroMask s0 x1) (R0_1 : Row el91 w A0_1 s0.Frames) (hc0_1 : s0.Frames.length ≤ c0_1) (R0_2 : Row el3 w A0_2 s0.Regs) (hc0_2 : s0.Regs.length ≤ c0_2) :
    Cl 166 #[(.agg (wC A0_1 c0_1 A0_2 c0_2 s0)), (iv x1)] w (fun v_ w_ => v_ = (iv r) ∧ Ext w w_) := by
 have H := wp.impl_Warp_zeroMask.math s0 x1 hp
 refine begK mixed Tryz.f166 ann (vc s0.Number A0_1 s0.Frames.length c0_1 A0_2 s0.Regs.length c0_2 x1) ?_
 unfold vc
 unfold wp.impl_Warp_zeroMask at H
 refine newBlk (fun g3_ w21 L3 O3 e22 => ?_)
 have hB := ethen (Ext.refl w) e22
 refine ⟨_, (O3.a 0), _, _, _, (O3.a 1), _, _, _, (O3.a 2), ?_⟩
 obtain ⟨hp25, H⟩ := H
 obtain ⟨r23, hr24, H⟩ := callO H
 refine (impl_ActiveMask.con hp25 hr24 (R0_1.ext hB) hc0_1 (R0_2.ext hB) hc0_2).mono ?_
 rintro _ w26 ⟨rfl, e27⟩
 have hB := ethen hB e27
 refine ⟨r23, rfl, ?_⟩
 obtain ⟨r28, hr29, H⟩ := callO H
 refine (impl_LanesOf.con hr29 ).mono ?_
 rintro _ w31 ⟨A33, c34, rfl, P4, e32⟩
 have O3 := (O3.ext e27).ext e32
 have O4 := P4.mono hB.size
 have hB := ethen hB e32
 refine ⟨A33, r28.length, c34, rfl, ?_⟩
 obtain ⟨J38, ⟨m66, hJ65⟩, hS39⟩ := H
 refine ⟨fun m_ z_ w_ => ∃ (i35 i36 : Int), z_ = (i35, i36, ()) ∧ J38 m_ (i35, i36, ()) ∧ Ext w w_ ∧ Blk w_ g3_ 52 (wC A0_1 c0_1 A0_2 c0_2 s0) ∧ Own el3 w_ w.heap.size A33 c34 r28, ⟨m66, 0, 0, rfl, hJ65, hB, O3, O4⟩, ?_⟩
 rintro m37 _ w41 ⟨i35, i36, rfl, hJ67, hB, O3, O4⟩
 have H := hS39 m37 _ hJ67
 clear hS39 hJ67
 try dsimp only at H ⊢
 refine brc H (fun h H => ?_) fun h H => ?_
 ·obtain ⟨⟨h0_45, h1_46⟩, H⟩ := H
  obtain ⟨a43, ha44, hat42⟩ := Row.at O4.row h0_45 h1_46
  refine ⟨h0_45, h1_46, a43, ha44, _, (hat42 0 _ rfl), _, (O3.a 0), _, _, _, (O3.a 1), _, _, _, (O3.a 2), ?_⟩
  obtain ⟨hp47, H⟩ := H
  refine (impl_Warp_lane.con hp47 (R0_1.ext hB) hc0_1 (R0_2.ext hB) hc0_2).mono ?_
  rintro _ w48 ⟨rfl, e49⟩
  have O3 := O3.ext e49
  have O4 := O4.ext e49
  have hB := ethen hB e49
  have R5_ := (R0_2.take ((wrap .i64 ((wrap .i64 ((rd r28 i36) + 1)) * 4)).toNat)).drop (l := ((wrap .i64 ((rd r28 i36) * 4)).toNat)) (m := c0_2) (by have := hc0_2; simp; omega)
  have le5_ : (List.drop ((wrap .i64 ((rd r28 i36) * 4)).toNat) (List.take ((wrap .i64 ((wrap .i64 ((rd r28 i36) + 1)) * 4)).toNat) s0.Regs)).length ≤ (c0_2 - ((wrap .i64 ((rd r28 i36) * 4)).toNat)) := by have := hc0_2; simp; omega
  refine ⟨(cutA c0_2 ((wrap .i64 ((rd r28 i36) * 4)).toNat) A0_2 1), (List.drop ((wrap .i64 ((rd r28 i36) * 4)).toNat) (List.take ((wrap .i64 ((wrap .i64 ((rd r28 i36) + 1)) * 4)).toNat) s0.Regs)).length, (c0_2 - ((wrap .i64 ((rd r28 i36) * 4)).toNat)), rfl, ?_⟩
  obtain ⟨⟨h0_53, h1_54⟩, H⟩ := H
  obtain ⟨a51, ha52, hat50⟩ := Row.at (R5_.ext hB) h0_53 h1_54
  refine ⟨h0_53, h1_54, a51, ha52, _, (hat50 0 _ rfl), ?_⟩
  refine brc H (fun h H => ?_) fun h H => ?_
  ·obtain ⟨hc55, H⟩ := H
   refine ⟨hc55, ?_⟩
   obtain ⟨m56, hm57, hJ58⟩ := H
   exact ⟨m56, hm57, _, _, rfl, hJ58, hB, O3, O4⟩
  obtain ⟨m59, hm60, hJ61⟩ := H
  exact ⟨m59, hm60, i35, _, rfl, hJ61, hB, O3, O4⟩
 cases hr.trans H.symm
 exact ⟨rfl, hB⟩
def impl_Warp_splits.vc (x0_0 : Int) (A0_1 : OA) (n0_1 c0_1 : Nat) (A0_2 : OA) (n0_2 c0_2 : Nat) (A1 : OA) (n1 c1 : Nat) (w : World) (K : VK) : Prop :=
  newK w (.cells #[(iv x0_0), (sv A0_1 n0_1 c0_1), (sv A0_2 n0_2 c0_2)] 52) fun g21 w22 => ldS w22 (((bx g21).add 1).add 0) fun A23 n24 c25 => ldS w22 (((bx g21).add 1).add 0) fun A26 n27 c28 => (idx (wrap .i64 (((n27 : Nat) : Int) - 1)) n24 A23 fun a29 => ldI w22 (((a29.add (((wrap .i64 (((n27 : Nat) : Int) - 1)).toNat) * 3)).add 0).add 0) fun n30 => (idx n30 n1 A1 fun a32 => ldI w22 (((a32.add ((n30.toNat) * 4)).add 0).add 0) fun n33 => bcase (n33 != 10) (K (.bool false) w22) ((idx n30 n1 A1 fun a34 => ldI w22 (((a34.add ((n30.toNat) * 4)).add 2).add 0) fun n35 => bcase (n35 == (wrap .i64 (n30 + 1))) (K (.bool false) w22) ((∃ M36 : Nat → Prop, ldIM M36 w22 (bx g21) 0 fun n37 => ldSM M36 w22 (bx g21) 1 fun A38 n39 c40 => ldSM M36 w22 (bx g21) 2 fun A41 n42 c43 => (idx n30 n1 A1 fun a44 => ldIM M36 w22 ((a44.add ((n30.toNat) * 4)).add 1) 0 fun n45 => Cl 166 #[(.agg #[(iv n37), (sv A38 n39 c40), (sv A41 n42 c43)]), (iv n45)] w22.drew fun v46 w47 => (∃ (n48 : Int), v46 = (iv n48) ∧ SameBut M36 w22 w47 ∧ bcase (n48 != 0) (ldI w47 ((bx g21).add 0) fun n49 => ldS w47 ((bx g21).add 1) fun A50 n51 c52 => ldS w47 ((bx g21).add 2) fun A53 n54 c55 => Cl 106 #[(.agg #[(iv n49), (sv A50 n51 c52), (sv A53 n54 c55)])] w47 fun v56 w57 => (∃ (n58 : Int), v56 = (iv n58) ∧ K (.bool (n48 != n58)) w57)) (K (.bool false) w47)))))))))

def impl_Warp_splits.ann : Ann := (.seq .l (.seq .l (.seq (.seq .l (.two (.seq .l .l) .l)) (.seq .l (.seq .l .l)))))

theorem impl_Warp_splits.con {s0 : D.Warp} {A0_1 A0_2 A1 : OA} {c0_1 c0_2 c1 : Nat} {xs1 : List D.Ins} {r : Bool} {w : World} (hp : M.impl_Warp_splits_pre s0 xs1) (hr : r = M.impl_Warp_splits s0 xs1) (R0_1 : Row el91 w A0_1 s0.Frames) (hc0_1 : s0.Frames.length ≤ c0_1) (R0_2 : Row el3 w A0_2 s0.Regs) (hc0_2 : s0.Regs.length ≤ c0_2) (R1 : Row el84 w A1 xs1) (hc1 : xs1.length ≤ c1) :
    Cl 122 #[(.agg (wC A0_1 c0_1 A0_2 c0_2 s0)), (sv A1 xs1.length c1)] w (fun v_ w_ => v_ = (.bool r) ∧ Ext w w_) := by
 have H := wp.impl_Warp_splits.math s0 xs1 hp
 refine begK mixed Tryz.f122 ann (vc s0.Number A0_1 s0.Frames.length c0_1 A0_2 s0.Regs.length c0_2 A1 xs1.length c1) ?_
 unfold vc
 unfold wp.impl_Warp_splits at H
 refine newBlk (fun g4_ w21 L4 O4 e22 => ?_)
 have hB := ethen (Ext.refl w) e22
 refine ⟨_, _, _, (O4.a 1), _, _, _, (O4.a 1), ?_⟩
 obtain ⟨⟨h0_26, h1_27⟩, H⟩ := H
 obtain ⟨a24, ha25, hat23⟩ := Row.at (R0_1.ext hB) h0_26 h1_27
 refine ⟨h0_26, h1_27, a24, ha25, _, (hat23 0 _ rfl), ?_⟩
 obtain ⟨⟨h0_31, h1_32⟩, H⟩ := H
 obtain ⟨a29, ha30, hat28⟩ := Row.at (R1.ext hB) h0_31 h1_32
 refine ⟨h0_31, h1_32, a29, ha30, _, (hat28 0 _ rfl), ?_⟩
 refine brc H (fun h H => ?_) fun h H => ?_
 ·cases hr.trans H.symm
  exact ⟨rfl, hB⟩
 obtain ⟨⟨h0_36, h1_37⟩, H⟩ := H
 obtain ⟨a34, ha35, hat33⟩ := Row.at (R1.ext hB) h0_36 h1_37
 refine ⟨h0_36, h1_37, a34, ha35, _, (hat33 2 _ rfl), ?_⟩
 refine brc H (fun h H => ?_) fun h H => ?_
 ·cases hr.trans H.symm
  exact ⟨rfl, hB⟩
 refine ⟨(fun _ => False), _, noM (O4.a 0), _, _, _, noM (O4.a 1), _, _, _, noM (O4.a 2), ?_⟩
 obtain ⟨⟨h0_42, h1_43⟩, H⟩ := H
 obtain ⟨a40, ha41, hat39⟩ := Row.at (R1.ext hB) h0_42 h1_43
 refine ⟨h0_42, h1_43, a40, ha41, _, ⟨(fun h_ => h_), (hat39 1 _ rfl)⟩, ?_⟩
 have O4 := O4.ext (Ext.drew _)
 have hB := ethen hB (Ext.drew _)
 have hS38 := (Chg.refl (fun _ => False) w21).then (Ext.drew _)
 obtain ⟨hp46, H⟩ := H
 obtain ⟨r44, hr45, H⟩ := callO H
 refine (impl_Warp_zeroMask.con hp46 hr45 (R0_1.ext hB) hc0_1 (R0_2.ext hB) hc0_2).mono ?_
 rintro _ w47 ⟨rfl, e48⟩
 have O4 := O4.ext e48
 have hB := ethen hB e48
 have hS38 := hS38.then e48
 refine ⟨r44, rfl, sameBut_chg hS38, ?_⟩
 refine brc H (fun h H => ?_) fun h H => ?_
 ·refine ⟨_, (O4.a 0), _, _, _, (O4.a 1), _, _, _, (O4.a 2), ?_⟩
  obtain ⟨hp51, H⟩ := H
  obtain ⟨r49, hr50, H⟩ := callO H
  refine (impl_ActiveMask.con hp51 hr50 (R0_1.ext hB) hc0_1 (R0_2.ext hB) hc0_2).mono ?_
  rintro _ w52 ⟨rfl, e53⟩
  have hB := ethen hB e53
  refine ⟨r49, rfl, ?_⟩
  cases hr.trans H.symm
  exact ⟨rfl, hB⟩
 cases hr.trans H.symm
 exact ⟨rfl, hB⟩
def impl_Block_canStep.vc (A0_0 : OA) (n0_0 c0_0 : Nat) (A0_1 : OA) (n0_1 c0_1 : Nat) (A0_2 : OA) (n0_2 c0_2 : Nat) (x0_3 x0_4 x1 : Int) (w : World) (K : VK) : Prop :=
  newK w (.cells (vB A0_0 n0_0 c0_0 A0_1 n0_1 c0_1 A0_2 n0_2 c0_2 x0_3 x0_4) 33) fun g21 w22 => ldB w22 (bx g21) fun A23 n24 c25 A26 n27 c28 A29 n30 c31 n32 n33 => Cl 68 #[(.agg (vB A23 n24 c25 A26 n27 c28 A29 n30 c31 n32 n33)), (iv x1)] w22 fun v34 w35 => (∃ u36 : Value, (∃ (n37 : Int), True ∧ ∃ (n38 : Int), True ∧ ∃ (n39 : Int), True ∧ ∃ (n40 : Int), True ∧ u36 = (.agg #[(iv n37), (iv n38), (iv n39), (iv n40)]) ∧ ∃ u41 : Value, (∃ (b42 : Bool), u41 = (.bool b42) ∧ v34 = (.tuple #[(.agg #[(iv n37), (iv n38), (iv n39), (iv n40)]), (.bool b42)]) ∧ newK w35 (.cells #[(iv 0), (iv 0), (iv 0), (iv 0)] 84) fun g43 w44 => stCells (bx g43) [(iv n37), (iv n38), (iv n39), (iv n40)] 0 w44 fun w45 => JoinT (σ := Bool × Unit) (fun J46 => bcase (!b42) (J46 (true, ()) w45) (ldB w45 (bx g21) fun A47 n48 c49 A50 n51 c52 A53 n54 c55 n56 n57 => Cl 65 #[(.agg (vB A47 n48 c49 A50 n51 c52 A53 n54 c55 n56 n57)), (iv x1)] w45 fun v58 w59 => (∃ (b60 : Bool), v58 = (.bool b60) ∧ J46 (b60, ()) w59))) fun z61 w62 => bcase z61.1 (K (.bool false) w62) (ldI w62 (((bx g43).add 0).add 0) fun n63 => bcase (n63 == 16) (ldS w62 (((bx g21).add 1).add 0) fun A64 n65 c66 => (idx x1 n65 A64 fun a67 => ldS w62 (((a67.add ((x1.toNat) * 3)).add 1).add 0) fun A68 n69 c70 => K (.bool (((n69 : Nat) : Int) == 1)) w62)) (ldI w62 ((bx g43).add 0) fun n71 => ldI w62 ((bx g43).add 1) fun n72 => ldI w62 ((bx g43).add 2) fun n73 => ldI w62 ((bx g43).add 3) fun n74 => Cl 121 #[(.agg #[(iv n71), (iv n72), (iv n73), (iv n74)])] w62 fun v75 w76 => (∃ (b77 : Bool), v75 = (.bool b77) ∧ bcase b77 ((∃ M78 : Nat → Prop, ldSM M78 w76 ((bx g21).add 1) 0 fun A79 n80 c81 => (idx x1 n80 A79 fun a82 => ldIM M78 w76 (a82.add ((x1.toNat) * 3)) 0 fun n83 => ldSM M78 w76 (a82.add ((x1.toNat) * 3)) 1 fun A84 n85 c86 => ldSM M78 w76 (a82.add ((x1.toNat) * 3)) 2 fun A87 n88 c89 => ldSM M78 w76 ((bx g21).add 0) 0 fun A90 n91 c92 => Cl 122 #[(.agg #[(iv n83), (sv A84 n85 c86), (sv A87 n88 c89)]), (sv A90 n91 c92)] w76.drew fun v93 w94 => (∃ (b95 : Bool), v93 = (.bool b95) ∧ SameBut M78 w76 w94 ∧ bcase (!b95) (K (.bool true) w94) (ldSM M78 w76 ((bx g21).add 1) 0 fun A96 n97 c98 => (idx x1 n97 A96 fun a99 => ldSM M78 w76 ((a99.add ((x1.toNat) * 3)).add 1) 0 fun A100 n101 c102 => K (.bool (decide ((wrap .i64 (((n101 : Nat) : Int) + 2)) ≤ 24))) w94)))))) (K (.bool true) w76)))))))

def impl_Block_canStep.ann : Ann := (.seq .l (.seq .l (.seq (.one (.cut [(13, .bool)] .l (.two (.seq .l .l) (.seq .l (.two (.seq .l .l) (.seq .l (.two (.seq .l .l) .l))))))) (.seq .l .l))))

theorem impl_Block_canStep.con {s0 : D.Block} {A0_0 A0_1 A0_2 : OA} {c0_0 c0_1 c0_2 : Nat} {x1 : Int} {r : Bool} {w : World} (hp : M.impl_Block_canStep_pre s0 x1) (hr : r = M.impl_Block_canStep s0 x1) (R0_0 : Row el84 w A0_0 s0.Code) (hc0_0 : s0.Code.length ≤ c0_0) (R0_1 : RowW 52 el91 el3 w A0_1 s0.Warps) (hc0_1 : s0.Warps.length ≤ c0_1) (R0_2 : Row el3 w A0_2 s0.Memory) (hc0_2 : s0.Memory.length ≤ c0_2) :
    Cl 61 #[(.agg (bC A0_0 c0_0 A0_1 c0_1 A0_2 c0_2 s0)), (iv x1)] w (fun v_ w_ => v_ = (.bool r) ∧ Ext w w_) := by
 have H := wp.impl_Block_canStep.math s0 x1 hp
 refine begK mixed Tryz.f61 ann (vc A0_0 s0.Code.length c0_0 A0_1 s0.Warps.length c0_1 A0_2 s0.Memory.length c0_2 s0.Waiting s0.Phase x1) ?_
 unfold vc
 unfold wp.impl_Block_canStep at H
 refine newBlk (fun g4_ w21 L4 O4 e22 => ?_)
 have hB := ethen (Ext.refl w) e22
 refine ⟨_, _, _, (O4.a 0), _, _, _, (O4.a 1), _, _, _, (O4.a 2), _, (O4.a 3), _, (O4.a 4), ?_⟩
 obtain ⟨hp25, H⟩ := H
 obtain ⟨r23, hr24, H⟩ := callO H
 refine (impl_Block_nextIns.con hp25 hr24 (R0_0.ext hB) hc0_0 (R0_1.ext hB) hc0_1 (R0_2.ext hB) hc0_2).mono ?_
 rintro _ w26 ⟨rfl, e27⟩
 refine ⟨(.agg (iC r23.1)), r23.1.Op, trivial, r23.1.A, trivial, r23.1.B, trivial, r23.1.C, trivial, rfl, (.bool r23.2), r23.2, rfl, rfl, ?_⟩
 refine newSt (iC r23.1) (fun g5_ w30 L5 O5 e31 => ?_)
 have O4 := (O4.ext e27).ext e31
 have hB := ethen (ethen hB e27) e31
 obtain ⟨K127, hKK127, H⟩ := joinP_out H
 refine ⟨fun z_ w_ => ∃ (b32 : Bool), z_ = (b32, ()) ∧ K127 (b32, ()) ∧ Ext w w_ ∧ Blk w_ g4_ 33 (bC A0_0 c0_0 A0_1 c0_1 A0_2 c0_2 s0) ∧ Blk w_ g5_ 84 (iC r23.1), ?_, ?_⟩
 ·refine brc H (fun h H => ?_) fun h H => ?_
  ·exact ⟨true, rfl, H, hB, O4, O5⟩
  refine ⟨_, _, _, (O4.a 0), _, _, _, (O4.a 1), _, _, _, (O4.a 2), _, (O4.a 3), _, (O4.a 4), ?_⟩
  obtain ⟨hp38, H⟩ := H
  obtain ⟨r36, hr37, H⟩ := callO H
  refine (impl_Block_waits.con hp38 hr37 (R0_0.ext hB) hc0_0 (R0_1.ext hB) hc0_1 (R0_2.ext hB) hc0_2).mono ?_
  rintro _ w39 ⟨rfl, e40⟩
  have O4 := O4.ext e40
  have O5 := O5.ext e40
  have hB := ethen hB e40
  refine ⟨r36, rfl, ?_⟩
  exact ⟨r36, rfl, H, hB, O4, O5⟩
 rintro _ w34 ⟨b32, rfl, H, hB, O4, O5⟩
 have H := hKK127 _ H
 try dsimp only at H ⊢
 refine brc H (fun h H => ?_) fun h H => ?_
 ·cases hr.trans H.symm
  exact ⟨rfl, hB⟩
 refine ⟨_, (O5.a 0), ?_⟩
 refine brc H (fun h H => ?_) fun h H => ?_
 ·refine ⟨_, _, _, (O4.a 1), ?_⟩
  obtain ⟨⟨h0_45, h1_46⟩, H⟩ := H
  obtain ⟨a43, ha44, A50, c51, A52, c53, f47, f48, f49, R54, hle56, R55, hle57⟩ := RowW.at R0_1 h0_45 h1_46
  refine ⟨h0_45, h1_46, a43, ha44, _, _, _, (Ext.cell hB f48), ?_⟩
  cases hr.trans H.symm
  exact ⟨rfl, hB⟩
 refine ⟨_, (O5.a 0), _, (O5.a 1), _, (O5.a 2), _, (O5.a 3), ?_⟩
 obtain ⟨r58, hr59, H⟩ := callO H
 refine (impl_IsLocal.con hr59 ).mono ?_
 rintro _ w61 ⟨rfl, e62⟩
 have O4 := O4.ext e62
 have hB := ethen hB e62
 refine ⟨r58, rfl, ?_⟩
 refine brc H (fun h H => ?_) fun h H => ?_
 ·refine ⟨(fun _ => False), ?_⟩
  have hBz := hB
  have Z4 := O4
  refine ⟨_, _, _, noM (O4.a 1), ?_⟩
  obtain ⟨⟨h0_88, h1_89⟩, H⟩ := H
  obtain ⟨a86, ha87, A93, c94, A95, c96, f90, f91, f92, R97, hle99, R98, hle100⟩ := RowW.at R0_1 h0_88 h1_89
  refine ⟨h0_88, h1_89, a86, ha87, _, ⟨(fun h_ => h_), (Ext.cell hB f90)⟩, _, _, _, ⟨(fun h_ => h_), (Ext.cell hB f91)⟩, _, _, _, ⟨(fun h_ => h_), (Ext.cell hB f92)⟩, _, _, _, noM (O4.a 0), ?_⟩
  have hB := ethen hB (Ext.drew _)
  have hS63 := (Chg.refl (fun _ => False) w61).then (Ext.drew _)
  obtain ⟨hp103, H⟩ := H
  obtain ⟨r101, hr102, H⟩ := callO H
  refine (cllA (impl_Warp_splits.con hp103 hr102 (R97.ext hB) hle99 (R98.ext hB) hle100 (R0_0.ext hB) hc0_0)).mono ?_
  rintro _ w104 ⟨rfl, e105⟩
  have hB := ethen hB e105
  have hS63 := hS63.then e105
  refine ⟨r101, rfl, sameBut_chg hS63, ?_⟩
  refine brc H (fun h H => ?_) fun h H => ?_
  ·cases hr.trans H.symm
   exact ⟨rfl, hB⟩
  refine ⟨_, _, _, ⟨(fun h_ => h_), (Z4.at 1 rfl rfl)⟩, ?_⟩
  obtain ⟨⟨h0_109, h1_110⟩, H⟩ := H
  obtain ⟨a107, ha108, A114, c115, A116, c117, f111, f112, f113, R118, hle120, R119, hle121⟩ := RowW.at R0_1 h0_109 h1_110
  refine ⟨h0_109, h1_110, a107, ha108, _, _, _, ⟨(fun h_ => h_), (Ext.cell hBz f112)⟩, ?_⟩
  cases hr.trans H.symm
  exact ⟨rfl, hB⟩
 cases hr.trans H.symm
 exact ⟨rfl, hB⟩
def impl_CanStep.vc (A0_0 : OA) (n0_0 c0_0 : Nat) (A0_1 : OA) (n0_1 c0_1 : Nat) (A0_2 : OA) (n0_2 c0_2 : Nat) (x0_3 x0_4 x1 : Int) (w : World) (K : VK) : Prop :=
  newK w (.cells (vB A0_0 n0_0 c0_0 A0_1 n0_1 c0_1 A0_2 n0_2 c0_2 x0_3 x0_4) 33) fun g21 w22 => ldB w22 (bx g21) fun A23 n24 c25 A26 n27 c28 A29 n30 c31 n32 n33 => Cl 62 #[(.agg (vB A23 n24 c25 A26 n27 c28 A29 n30 c31 n32 n33)), (iv x1)] w22 fun v34 w35 => (∃ (b36 : Bool), v34 = (.bool b36) ∧ bcase b36 (ldB w35 (bx g21) fun A37 n38 c39 A40 n41 c42 A43 n44 c45 n46 n47 => Cl 61 #[(.agg (vB A37 n38 c39 A40 n41 c42 A43 n44 c45 n46 n47)), (iv x1)] w35 fun v48 w49 => (∃ (b50 : Bool), v48 = (.bool b50) ∧ K (.bool b50) w49)) (K (.bool false) w35))

def impl_CanStep.ann : Ann := (.seq .l (.seq .l .l))

theorem impl_CanStep.con {s0 : D.Block} {A0_0 A0_1 A0_2 : OA} {c0_0 c0_1 c0_2 : Nat} {x1 : Int} {r : Bool} {w : World} (hp : M.impl_CanStep_pre s0 x1) (hr : r = M.impl_CanStep s0 x1) (R0_0 : Row el84 w A0_0 s0.Code) (hc0_0 : s0.Code.length ≤ c0_0) (R0_1 : RowW 52 el91 el3 w A0_1 s0.Warps) (hc0_1 : s0.Warps.length ≤ c0_1) (R0_2 : Row el3 w A0_2 s0.Memory) (hc0_2 : s0.Memory.length ≤ c0_2) :
    Cl 21 #[(.agg (bC A0_0 c0_0 A0_1 c0_1 A0_2 c0_2 s0)), (iv x1)] w (fun v_ w_ => v_ = (.bool r) ∧ Ext w w_) := by
 have H := wp.impl_CanStep.math s0 x1 hp
 refine begK mixed Tryz.f21 ann (vc A0_0 s0.Code.length c0_0 A0_1 s0.Warps.length c0_1 A0_2 s0.Memory.length c0_2 s0.Waiting s0.Phase x1) ?_
 unfold vc
 unfold wp.impl_CanStep at H
 refine newBlk (fun g4_ w21 L4 O4 e22 => ?_)
 have hB := ethen (Ext.refl w) e22
 refine ⟨_, _, _, (O4.a 0), _, _, _, (O4.a 1), _, _, _, (O4.a 2), _, (O4.a 3), _, (O4.a 4), ?_⟩
 obtain ⟨hp25, H⟩ := H
 obtain ⟨r23, hr24, H⟩ := callO H
 refine (impl_hasWarp.con hp25 hr24 (R0_0.ext hB) hc0_0 (R0_1.ext hB) hc0_1 (R0_2.ext hB) hc0_2).mono ?_
 rintro _ w26 ⟨rfl, e27⟩
 have O4 := O4.ext e27
 have hB := ethen hB e27
 refine ⟨r23, rfl, ?_⟩
 refine brc H (fun h H => ?_) fun h H => ?_
 ·refine ⟨_, _, _, (O4.a 0), _, _, _, (O4.a 1), _, _, _, (O4.a 2), _, (O4.a 3), _, (O4.a 4), ?_⟩
  obtain ⟨hp30, H⟩ := H
  obtain ⟨r28, hr29, H⟩ := callO H
  refine (impl_Block_canStep.con hp30 hr29 (R0_0.ext hB) hc0_0 (R0_1.ext hB) hc0_1 (R0_2.ext hB) hc0_2).mono ?_
  rintro _ w31 ⟨rfl, e32⟩
  have hB := ethen hB e32
  refine ⟨r28, rfl, ?_⟩
  cases hr.trans H.symm
  exact ⟨rfl, hB⟩
 cases hr.trans H.symm
 exact ⟨rfl, hB⟩
def spec_l04Put.vc (A0 : OA) (n0 c0 : Nat) (x1 : Int) (w : World) (K : VK) : Prop :=
  JoinT (σ := Int × Unit) (fun J21 => LoopT (σ := Int × Unit) (fun z22 w23 next24 => bcase (decide (z22.1 > 0)) ((idx (wrap .i64 (z22.1 - 1)) n0 A0 fun a25 => ldI w23 ((a25.add (((wrap .i64 (z22.1 - 1)).toNat) * 1)).add 0) fun n26 => bcase (decide (n26 > x1)) (next24 ((wrap .i64 (z22.1 - 1)), ()) w23) (J21 (z22.1, ()) w23))) (J21 (z22.1, ()) w23)) (((n0 : Nat) : Int), ()) w) fun z27 w28 => JoinT (σ := Unit) (fun J29 => bcase (decide (z27.1 > 0)) ((idx (wrap .i64 (z27.1 - 1)) n0 A0 fun a30 => ldI w28 ((a30.add (((wrap .i64 (z27.1 - 1)).toNat) * 1)).add 0) fun n31 => bcase (n31 == x1) (K (sv A0 n0 c0) w28) (J29 () w28))) (J29 () w28)) fun z32 w33 => Run Tryz.prog (Instr.buildSlice 24 0 #[]) w33 fun v34 w35 => ∃ (A36 : OA) (n37 c38 : Nat), v34 = .slice A36 n37 c38 ∧ ((0 : Int) ≤ z27.1 ∧ z27.1 ≤ ((c0 : Nat) : Int) ∧ Run Tryz.prog (Builtin.append_ #[24, 24] 24 #[(sv A36 n37 c38), (sv A0 (z27.1.toNat) c0)]) w35 fun v39 w40 => ∃ (A41 : OA) (n42 c43 : Nat), v39 = .slice A41 n42 c43 ∧ Run Tryz.prog (Instr.buildSlice 24 1 #[(0, (iv x1))]) w40 fun v44 w45 => ∃ (A46 : OA) (n47 c48 : Nat), v44 = .slice A46 n47 c48 ∧ Run Tryz.prog (Builtin.append_ #[24, 24] 24 #[(sv A41 n42 c43), (sv A46 n47 c48)]) w45 fun v49 w50 => ∃ (A51 : OA) (n52 c53 : Nat), v49 = .slice A51 n52 c53 ∧ ((0 : Int) ≤ z27.1 ∧ z27.1 ≤ ((n0 : Nat) : Int) ∧ Run Tryz.prog (Builtin.append_ #[24, 24] 24 #[(sv A51 n52 c53), (sv (if c0 = (z27.1.toNat) then A0 else A0.map (·.add ((z27.1.toNat) * szOf Tryz.prog 3))) (n0 - (z27.1.toNat)) (c0 - (z27.1.toNat)))]) w50 fun v54 w55 => ∃ (A56 : OA) (n57 c58 : Nat), v54 = .slice A56 n57 c58 ∧ K (sv A56 n57 c58) w55))

def spec_l04Put.ann : Ann := (.seq .l (.seq .l (.cut [(5, .int .i64)] (.one (.loop [(5, .int .i64)] (.seq (.seq .l (.two .l .l)) (.one .l)))) (.cut [] (.seq .l (.two (.seq .l .l) .l)) (.seq .l (.seq .l (.seq .l .l)))))))

theorem spec_l04Put.con {xs0 r : List Int} {A0 : OA} {c0 : Nat} {x1 : Int} {w : World} (hp : M.spec_l04Put_pre xs0 x1) (hr : r = M.spec_l04Put xs0 x1) (O1 : Own el3 w 0 A0 c0 xs0) :
    Cl 102 #[(sv A0 xs0.length c0), (iv x1)] w (fun v_ w_ => ∃ (A0_ : OA) (c0_ : Nat), v_ = (sv A0_ r.length c0_) ∧ Own el3 w_ 0 A0_ c0_ r ∧ Mov w A0 A0_ ∧ Chg (InB A0) w w_) := by
 have H := wp.spec_l04Put.math xs0 x1 hp
 have hB := Chg.refl (InB A0) w
 refine begK mixed Tryz.f102 ann (vc A0 xs0.length c0 x1) ?_
 unfold vc
 unfold wp.spec_l04Put at H
 obtain ⟨K83, hKK83, H⟩ := joinP_out H
 refine ⟨fun z_ w_ => ∃ (i21 : Int), z_ = (i21, ()) ∧ K83 (i21, ()) ∧ Chg (InB A0) w w_ ∧ Own el3 w_ 0 A0 c0 xs0, ?_, ?_⟩
 ·obtain ⟨J27, ⟨m43, hJ42⟩, hS28⟩ := H
  refine ⟨fun m_ z_ w_ => ∃ (i25 : Int), z_ = (i25, ()) ∧ J27 m_ (i25, ()) ∧ Chg (InB A0) w w_ ∧ Own el3 w_ 0 A0 c0 xs0, ⟨m43, (xs0.length : Int), rfl, hJ42, hB, O1⟩, ?_⟩
  rintro m26 _ w30 ⟨i25, rfl, hJ44, hB, O1⟩
  have H := hS28 m26 _ hJ44
  clear hS28 hJ44
  try dsimp only at H ⊢
  refine brc H (fun h H => ?_) fun h H => ?_
  ·obtain ⟨⟨h0_34, h1_35⟩, H⟩ := H
   obtain ⟨a32, ha33, hat31⟩ := Row.at O1.row h0_34 h1_35
   refine ⟨h0_34, h1_35, a32, ha33, _, (hat31 0 _ rfl), ?_⟩
   refine brc H (fun h H => ?_) fun h H => ?_
   ·obtain ⟨m36, hm37, hJ38⟩ := H
    exact ⟨m36, hm37, _, rfl, hJ38, hB, O1⟩
   exact ⟨i25, rfl, H, hB, O1⟩
  exact ⟨i25, rfl, H, hB, O1⟩
 rintro _ w23 ⟨i21, rfl, H, hB, O1⟩
 have H := hKK83 _ H
 try dsimp only at H ⊢
 obtain ⟨K81, hKK81, H⟩ := joinP_out H
 refine ⟨fun z_ w_ => z_ = (()) ∧ K81 (()) ∧ Chg (InB A0) w w_ ∧ Own el3 w_ 0 A0 c0 xs0, ?_, ?_⟩
 ·refine brc H (fun h H => ?_) fun h H => ?_
  ·obtain ⟨⟨h0_51, h1_52⟩, H⟩ := H
   obtain ⟨a49, ha50, hat48⟩ := Row.at O1.row h0_51 h1_52
   refine ⟨h0_51, h1_52, a49, ha50, _, (hat48 0 _ rfl), ?_⟩
   refine brc H (fun h H => ?_) fun h H => ?_
   ·cases hr.trans H.symm
    exact ⟨A0, c0, rfl, (O1.mono (Nat.zero_le _)), (Mov.same _ _), hB⟩
   exact ⟨rfl, H, hB, O1⟩
  exact ⟨rfl, H, hB, O1⟩
 rintro _ w46 ⟨rfl, H, hB, O1⟩
 have H := hKK81 _ H
 try dsimp only at H ⊢
 refine buildOwn el3 ([] : List Int) (fun _ => by kernel_rfl) rfl (fun A55 w56 P2 e57 => ?_)
 have N1_2 := aN O1 P2
 have O1 := O1.ext e57
 have O2 := P2.mono hB.size
 have hB := hB.then e57
 obtain ⟨⟨hh58, hh59⟩, H⟩ := H
 refine and_assoc.1 ⟨⟨hh58, Int.le_trans hh59 (Int.ofNat_le.2 O1.le)⟩, ?_⟩
 have O3 := (O1.take (i21.toNat))
 obtain ⟨hl64, H⟩ := H
 refine appO slt24 O2 O3.row hB.size hl64 (fun A60 c61 w62 P2 e63 => ?_)
 have N1_2_ := Apart2.app N1_2 e63 O1
 have O1 := O1.app e63 N1_2
 have N1_2 := N1_2_
 have hB := hB.app e63 (fun g h_ => Or.inl (O2.low g h_))
 refine buildOwn el3 ([x1] : List Int) (fun _ => by kernel_rfl) rfl (fun A65 w66 P4 e67 => ?_)
 have O2 := P2.ext e67
 have O4 := P4.mono hB.size
 have hB := hB.then e67
 obtain ⟨hl72, H⟩ := H
 refine appO slt24 O2 O4.row hB.size hl72 (fun A68 c69 w70 P2 e71 => ?_)
 have O1 := (O1.ext e67).app e71 N1_2
 have hB := hB.app e71 (fun g h_ => Or.inl (O2.low g h_))
 have O2 := P2
 obtain ⟨⟨hl73, hl74⟩, H⟩ := H
 refine and_assoc.1 ⟨⟨hl73, hl74⟩, ?_⟩
 have O5 := (O1.drop (l := (i21.toNat)) (by first | omega | (simp; done) | (simp; omega)))
 obtain ⟨hl79, H⟩ := H
 refine appO slt24 O2 O5.row hB.size hl79 (fun A75 c76 w77 P2 e78 => ?_)
 have hB := hB.app e78 (fun g h_ => Or.inl (O2.low g h_))
 have O2 := P2
 cases hr.trans H.symm
 exact ⟨A75, c76, rfl, (O2.mono (Nat.zero_le _)), (Mov.new O2), hB⟩
def cmp_isNaN_int.vc (x0 : Int) (w : World) (K : VK) : Prop :=
  K (.bool (x0 != x0)) w

def cmp_isNaN_int.ann : Ann := (.seq .l (.seq .l .l))

theorem cmp_isNaN_int.con {x0 : Int} {r : Bool} {w : World} (hr : r = M.cmp_isNaN_int x0)  :
    Cl 158 #[(iv x0)] w (fun v_ w_ => v_ = (.bool r) ∧ Ext w w_) := by
 have H := wp.cmp_isNaN_int.math x0
 have hB := Ext.refl w
 refine begK mixed Tryz.f158 ann (vc x0) ?_
 unfold vc
 unfold wp.cmp_isNaN_int at H
 cases hr.trans H.symm
 exact ⟨rfl, hB⟩
def math_bits_Len64.vc (x0 : Int) (w : World) (K : VK) : Prop :=
  JoinT (σ := Int × Int × Unit) (fun J21 => bcase (decide (x0 ≥ 4294967296)) (((0 : Int) ≤ 32 ∧ J21 ((Int.fdiv x0 (2 ^ (min ((32 : Int).toNat) (IntKind.bits .u64)))), 32, ()) w)) (J21 (x0, 0, ()) w)) fun z22 w23 => JoinT (σ := Int × Int × Unit) (fun J24 => bcase (decide (z22.1 ≥ 65536)) (((0 : Int) ≤ 16 ∧ J24 ((Int.fdiv z22.1 (2 ^ (min ((16 : Int).toNat) (IntKind.bits .u64)))), (wrap .i64 (z22.2.1 + 16)), ()) w23)) (J24 (z22.1, z22.2.1, ()) w23)) fun z25 w26 => JoinT (σ := Int × Int × Unit) (fun J27 => bcase (decide (z25.1 ≥ 256)) (((0 : Int) ≤ 8 ∧ J27 ((Int.fdiv z25.1 (2 ^ (min ((8 : Int).toNat) (IntKind.bits .u64)))), (wrap .i64 (z25.2.1 + 8)), ()) w26)) (J27 (z25.1, z25.2.1, ()) w26)) fun z28 w29 => ((0 : Int) ≤ IntKind.wrap .u8 z28.1 ∧ ∃ y30 : UInt8, ((⟨#[0, 1, 2, 2, 3, 3, 3, 3, 4, 4, 4, 4, 4, 4, 4, 4, 5, 5, 5, 5, 5, 5, 5, 5, 5, 5, 5, 5, 5, 5, 5, 5, 6, 6, 6, 6, 6, 6, 6, 6, 6, 6, 6, 6, 6, 6, 6, 6, 6, 6, 6, 6, 6, 6, 6, 6, 6, 6, 6, 6, 6, 6, 6, 6, 7, 7, 7, 7, 7, 7, 7, 7, 7, 7, 7, 7, 7, 7, 7, 7, 7, 7, 7, 7, 7, 7, 7, 7, 7, 7, 7, 7, 7, 7, 7, 7, 7, 7, 7, 7, 7, 7, 7, 7, 7, 7, 7, 7, 7, 7, 7, 7, 7, 7, 7, 7, 7, 7, 7, 7, 7, 7, 7, 7, 7, 7, 7, 7, 8, 8, 8, 8, 8, 8, 8, 8, 8, 8, 8, 8, 8, 8, 8, 8, 8, 8, 8, 8, 8, 8, 8, 8, 8, 8, 8, 8, 8, 8, 8, 8, 8, 8, 8, 8, 8, 8, 8, 8, 8, 8, 8, 8, 8, 8, 8, 8, 8, 8, 8, 8, 8, 8, 8, 8, 8, 8, 8, 8, 8, 8, 8, 8, 8, 8, 8, 8, 8, 8, 8, 8, 8, 8, 8, 8, 8, 8, 8, 8, 8, 8, 8, 8, 8, 8, 8, 8, 8, 8, 8, 8, 8, 8, 8, 8, 8, 8, 8, 8, 8, 8, 8, 8, 8, 8, 8, 8, 8, 8, 8, 8, 8, 8, 8, 8, 8, 8, 8, 8, 8, 8, 8, 8, 8, 8, 8, 8]⟩) : ByteArray)[((IntKind.wrap .u8 z28.1).toNat)]? = some y30 ∧ K (iv (wrap .i64 (z28.2.1 + (wrap .i64 ((y30.toNat : Nat) : Int))))) w29)

def math_bits_Len64.ann : Ann := (.seq .l (.cut [(0, .int .u64), (2, .int .i64)] (.seq .l (.two (.seq .l .l) .l)) (.cut [(0, .int .u64), (2, .int .i64)] (.seq .l (.two (.seq .l .l) .l)) (.cut [(0, .int .u64), (2, .int .i64)] (.seq .l (.two (.seq .l .l) .l)) (.seq .l .l)))))

theorem math_bits_Len64.con {x0 r : Int} {w : World} (hp : M.math_bits_Len64_pre x0) (hr : r = M.math_bits_Len64 x0)  :
    Cl 196 #[(.int .u64 x0)] w (fun v_ w_ => v_ = (iv r) ∧ Ext w w_) := by
 have H := wp.math_bits_Len64.math x0 hp
 have hB := Ext.refl w
 refine begK mixed Tryz.f196 ann (vc x0) ?_
 unfold vc
 unfold wp.math_bits_Len64 at H
 obtain ⟨K52, hKK52, H⟩ := joinP_out H
 refine ⟨fun z_ w_ => ∃ (i21 i22 : Int), z_ = (i21, i22, ()) ∧ K52 (i21, i22, ()) ∧ Ext w w_, ?_, ?_⟩
 ·refine brc H (fun h H => ?_) fun h H => ?_
  ·refine ⟨by decide, ?_⟩
   exact ⟨_, 32, rfl, H, hB⟩
  exact ⟨x0, 0, rfl, H, hB⟩
 rintro _ w24 ⟨i21, i22, rfl, H, hB⟩
 have H := hKK52 _ H
 try dsimp only at H ⊢
 obtain ⟨K50, hKK50, H⟩ := joinP_out H
 refine ⟨fun z_ w_ => ∃ (i28 i29 : Int), z_ = (i28, i29, ()) ∧ K50 (i28, i29, ()) ∧ Ext w w_, ?_, ?_⟩
 ·refine brc H (fun h H => ?_) fun h H => ?_
  ·refine ⟨by decide, ?_⟩
   exact ⟨_, _, rfl, H, hB⟩
  exact ⟨i21, i22, rfl, H, hB⟩
 rintro _ w31 ⟨i28, i29, rfl, H, hB⟩
 have H := hKK50 _ H
 try dsimp only at H ⊢
 obtain ⟨K48, hKK48, H⟩ := joinP_out H
 refine ⟨fun z_ w_ => ∃ (i35 i36 : Int), z_ = (i35, i36, ()) ∧ K48 (i35, i36, ()) ∧ Ext w w_, ?_, ?_⟩
 ·refine brc H (fun h H => ?_) fun h H => ?_
  ·refine ⟨by decide, ?_⟩
   exact ⟨_, _, rfl, H, hB⟩
  exact ⟨i28, i29, rfl, H, hB⟩
 rintro _ w38 ⟨i35, i36, rfl, H, hB⟩
 have H := hKK48 _ H
 try dsimp only at H ⊢
 obtain ⟨⟨h0_45, h1_46⟩, H⟩ := H
 obtain ⟨y42, hy43, hyb44⟩ := strAt h0_45 h1_46
 refine ⟨h0_45, y42, hy43, ?_⟩
 rw [hyb44]
 cases hr.trans H.symm
 exact ⟨rfl, hB⟩
def math_bits_Len.vc (x0 : Int) (w : World) (K : VK) : Prop :=
  Cl 196 #[(.int .u64 x0)] w fun v21 w22 => (∃ (n23 : Int), v21 = (iv n23) ∧ K (iv n23) w22)

def math_bits_Len.ann : Ann := (.seq .l (.seq (.two (.seq .l .l) .l) (.seq .l .l)))

theorem math_bits_Len.con {x0 r : Int} {w : World} (hp : M.math_bits_Len_pre x0) (hr : r = M.math_bits_Len x0)  :
    Cl 157 #[(.int .u64 x0)] w (fun v_ w_ => v_ = (iv r) ∧ Ext w w_) := by
 have H := wp.math_bits_Len.math x0 hp
 refine begK mixed Tryz.f157 ann (vc x0) ?_
 unfold vc
 unfold wp.math_bits_Len at H
 obtain ⟨hp23, H⟩ := H
 obtain ⟨r21, hr22, H⟩ := callO H
 refine (math_bits_Len64.con hp23 hr22 ).mono ?_
 rintro _ w24 ⟨rfl, e25⟩
 have hB := ethen (Ext.refl w) e25
 refine ⟨r21, rfl, ?_⟩
 cases hr.trans H.symm
 exact ⟨rfl, hB⟩
def cmp_Compare_int.vc (x0 x1 : Int) (w : World) (K : VK) : Prop :=
  Cl 158 #[(iv x0)] w fun v21 w22 => (∃ (b23 : Bool), v21 = (.bool b23) ∧ Cl 158 #[(iv x1)] w22 fun v24 w25 => (∃ (b26 : Bool), v24 = (.bool b26) ∧ bcase b23 (bcase b26 (K (iv 0) w25) (K (iv (-1)) w25)) (bcase b26 (K (iv 1) w25) (bcase (decide (x0 < x1)) (K (iv (-1)) w25) (bcase (decide (x0 > x1)) (K (iv 1) w25) (K (iv 0) w25))))))

def cmp_Compare_int.ann : Ann := (.seq .l (.seq .l (.seq .l (.seq (.seq .l (.two (.seq (.seq .l (.two (.seq .l .l) .l)) (.seq .l .l)) .l)) (.seq (.seq .l (.two (.seq .l .l) .l)) (.seq (.seq .l (.two (.seq .l .l) .l)) (.seq (.seq .l (.two (.seq .l .l) .l)) (.seq .l .l))))))))

theorem cmp_Compare_int.con {x0 x1 r : Int} {w : World} (hp : M.cmp_Compare_int_pre x0 x1) (hr : r = M.cmp_Compare_int x0 x1)  :
    Cl 110 #[(iv x0), (iv x1)] w (fun v_ w_ => v_ = (iv r) ∧ Ext w w_) := by
 have H := wp.cmp_Compare_int.math x0 x1 hp
 refine begK mixed Tryz.f110 ann (vc x0 x1) ?_
 unfold vc
 unfold wp.cmp_Compare_int at H
 obtain ⟨r21, hr22, H⟩ := callO H
 refine (cmp_isNaN_int.con hr22 ).mono ?_
 rintro _ w24 ⟨rfl, e25⟩
 refine ⟨r21, rfl, ?_⟩
 obtain ⟨r26, hr27, H⟩ := callO H
 refine (cmp_isNaN_int.con hr27 ).mono ?_
 rintro _ w29 ⟨rfl, e30⟩
 have hB := ethen (ethen (Ext.refl w) e25) e30
 refine ⟨r26, rfl, ?_⟩
 refine brc H (fun h H => ?_) fun h H => ?_
 ·refine brc H (fun h H => ?_) fun h H => ?_
  ·cases hr.trans H.symm
   exact ⟨rfl, hB⟩
  cases hr.trans H.symm
  exact ⟨rfl, hB⟩
 refine brc H (fun h H => ?_) fun h H => ?_
 ·cases hr.trans H.symm
  exact ⟨rfl, hB⟩
 refine brc H (fun h H => ?_) fun h H => ?_
 ·cases hr.trans H.symm
  exact ⟨rfl, hB⟩
 refine brc H (fun h H => ?_) fun h H => ?_
 ·cases hr.trans H.symm
  exact ⟨rfl, hB⟩
 cases hr.trans H.symm
 exact ⟨rfl, hB⟩
def impl_Block_accesses_1.vc (x0_0 x0_1 x0_2 x0_3 x1_0 x1_1 x1_2 x1_3 : Int) (w : World) (K : VK) : Prop :=
  newK w (.cells #[(iv x0_0), (iv x0_1), (iv x0_2), (iv x0_3)] 63) fun g21 w22 => newK w22 (.cells #[(iv x1_0), (iv x1_1), (iv x1_2), (iv x1_3)] 63) fun g23 w24 => ldI w24 (((bx g21).add 2).add 0) fun n25 => ldI w24 (((bx g23).add 2).add 0) fun n26 => Cl 110 #[(iv n25), (iv n26)] w24 fun v27 w28 => (∃ (n29 : Int), v27 = (iv n29) ∧ K (iv n29) w28)

def impl_Block_accesses_1.ann : Ann := (.seq .l (.seq .l .l))

theorem impl_Block_accesses_1.con {s0 s1 : D.Access} {r : Int} {w : World} (hp : M.impl_Block_accesses_1_pre s0 s1) (hr : r = M.impl_Block_accesses_1 s0 s1)  :
    Cl 109 #[(.agg #[(iv s0.Phase), (iv s0.Warp), (iv s0.Address), (iv s0.Kind)]), (.agg #[(iv s1.Phase), (iv s1.Warp), (iv s1.Address), (iv s1.Kind)])] w (fun v_ w_ => v_ = (iv r) ∧ Ext w w_) := by
 have H := wp.impl_Block_accesses_1.math s0 s1 hp
 refine begK mixed Tryz.f109 ann (vc s0.Phase s0.Warp s0.Address s0.Kind s1.Phase s1.Warp s1.Address s1.Kind) ?_
 unfold vc
 unfold wp.impl_Block_accesses_1 at H
 refine newBlk (fun g1_ w21 L1 O1 e22 => ?_)
 refine newBlk (fun g2_ w23 L2 O2 e24 => ?_)
 have O1 := O1.ext e24
 refine ⟨_, (O1.a 2), _, (O2.a 2), ?_⟩
 obtain ⟨hp27, H⟩ := H
 obtain ⟨r25, hr26, H⟩ := callO H
 refine (cmp_Compare_int.con hp27 hr26 ).mono ?_
 rintro _ w28 ⟨rfl, e29⟩
 have hB := ethen (ethen (ethen (Ext.refl w) e22) e24) e29
 refine ⟨r25, rfl, ?_⟩
 cases hr.trans H.symm
 exact ⟨rfl, hB⟩
end Go.V
