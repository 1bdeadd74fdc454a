import Derived.Test.YtkpfabigipedcaaGreatPkMath3
import Derived.Test.YtkpfabigipedcaaGreatPkSeat
import Derived.Test.YtkpfabigipedcaaGreatPkVFoc
namespace Go.V
open Go.Proofs
open IntKind (wrap)
set_option linter.unusedVariables false
set_option linter.unusedSimpArgs false
set_option maxRecDepth 100000
def qar.vc (x0 x1 x2 : Int) (w : World) (K : VK) : Prop :=
  qa1 (decide (x0 ≥ x1)) (K (.bool (decide (x0 ≤ x2))) w) (K (.bool false) w)

def qar.ann : Ann := (.seq .l (.seq .l .l))

theorem qar.con {x0 x1 x2 : Int} {r : Bool} {w : World} (hr : r = M.qar x0 x1 x2)  :
    Cl 78 #[(iv x0), (iv x1), (iv x2)] w (fun v_ w_ => v_ = (.bool r) ∧ Ext w w_) := by
 have H := wp.qar.math x0 x1 x2
 have hB := Ext.refl w
 refine begK mixed Tryz.f78 ann (vc x0 x1 x2) ?_
 unfold vc
 unfold wp.qar at H
 refine brc H (fun h H => ?_) fun h H => ?_
 ·cases hr.trans H.symm
  exact ⟨rfl, hB⟩
 cases hr.trans H.symm
 exact ⟨rfl, hB⟩
def qaQ.vc (x0 x1 x2 : Int) (w : World) (K : VK) : Prop :=
  qa1 (decide (x0 ≥ x1)) (K (.bool (decide (x0 ≤ x2))) w) (K (.bool false) w)

def qaQ.ann : Ann := (.seq .l (.seq .l .l))

theorem qaQ.con {x0 x1 x2 : Int} {r : Bool} {w : World} (hr : r = M.qaQ x0 x1 x2)  :
    Cl 99 #[(iv x0), (iv x1), (iv x2)] w (fun v_ w_ => v_ = (.bool r) ∧ Ext w w_) := by
 have H := wp.qaQ.math x0 x1 x2
 have hB := Ext.refl w
 refine begK mixed Tryz.f99 ann (vc x0 x1 x2) ?_
 unfold vc
 unfold wp.qaQ at H
 refine brc H (fun h H => ?_) fun h H => ?_
 ·cases hr.trans H.symm
  exact ⟨rfl, hB⟩
 cases hr.trans H.symm
 exact ⟨rfl, hB⟩
def qbD.vc (x0 : Int) (w : World) (K : VK) : Prop :=
  Cl 78 #[(iv x0), (iv 0), (iv 65535)] w fun v21 w22 => (∃ (b23 : Bool), v21 = (.bool b23) ∧ K (.bool b23) w22)

def qbD.ann : Ann := (.seq .l (.seq .l .l))

theorem qbD.con {x0 : Int} {r : Bool} {w : World} (hr : r = M.qbD x0)  :
    Cl 178 #[(iv x0)] w (fun v_ w_ => v_ = (.bool r) ∧ Ext w w_) := by
 have H := wp.qbD.math x0
 refine begK mixed Tryz.f178 ann (vc x0) ?_
 unfold vc
 unfold wp.qbD at H
 obtain ⟨r21, hr22, H⟩ := qad H
 refine (qar.con hr22 ).mono ?_
 rintro _ w24 ⟨rfl, e25⟩
 have hB := qa5 (Ext.refl w) e25
 refine ⟨r21, rfl, ?_⟩
 cases hr.trans H.symm
 exact ⟨rfl, hB⟩
def qb4.vc (x0 : Int) (w : World) (K : VK) : Prop :=
  Cl 99 #[(iv x0), (iv 0), (iv 65535)] w fun v21 w22 => (∃ (b23 : Bool), v21 = (.bool b23) ∧ K (.bool b23) w22)

def qb4.ann : Ann := (.seq .l (.seq .l .l))

theorem qb4.con {x0 : Int} {r : Bool} {w : World} (hr : r = M.qb4 x0)  :
    Cl 204 #[(iv x0)] w (fun v_ w_ => v_ = (.bool r) ∧ Ext w w_) := by
 have H := wp.qb4.math x0
 refine begK mixed Tryz.f204 ann (vc x0) ?_
 unfold vc
 unfold wp.qb4 at H
 obtain ⟨r21, hr22, H⟩ := qad H
 refine (qaQ.con hr22 ).mono ?_
 rintro _ w24 ⟨rfl, e25⟩
 have hB := qa5 (Ext.refl w) e25
 refine ⟨r21, rfl, ?_⟩
 cases hr.trans H.symm
 exact ⟨rfl, hB⟩
def qdf.vc (x0 : Int) (w : World) (K : VK) : Prop :=
  Cl 78 #[(iv x0), (iv 0), (iv 255)] w fun v21 w22 => (∃ (b23 : Bool), v21 = (.bool b23) ∧ K (.bool b23) w22)

def qdf.ann : Ann := (.seq .l (.seq .l .l))

theorem qdf.con {x0 : Int} {r : Bool} {w : World} (hr : r = M.qdf x0)  :
    Cl 179 #[(iv x0)] w (fun v_ w_ => v_ = (.bool r) ∧ Ext w w_) := by
 have H := wp.qdf.math x0
 refine begK mixed Tryz.f179 ann (vc x0) ?_
 unfold vc
 unfold wp.qdf at H
 obtain ⟨r21, hr22, H⟩ := qad H
 refine (qar.con hr22 ).mono ?_
 rintro _ w24 ⟨rfl, e25⟩
 have hB := qa5 (Ext.refl w) e25
 refine ⟨r21, rfl, ?_⟩
 cases hr.trans H.symm
 exact ⟨rfl, hB⟩
def qdM.vc (x0 : Int) (w : World) (K : VK) : Prop :=
  Cl 78 #[(iv x0), (iv 0), (iv 7)] w fun v21 w22 => (∃ (b23 : Bool), v21 = (.bool b23) ∧ K (.bool b23) w22)

def qdM.ann : Ann := (.seq .l (.seq .l .l))

theorem qdM.con {x0 : Int} {r : Bool} {w : World} (hr : r = M.qdM x0)  :
    Cl 186 #[(iv x0)] w (fun v_ w_ => v_ = (.bool r) ∧ Ext w w_) := by
 have H := wp.qdM.math x0
 refine begK mixed Tryz.f186 ann (vc x0) ?_
 unfold vc
 unfold wp.qdM at H
 obtain ⟨r21, hr22, H⟩ := qad H
 refine (qar.con hr22 ).mono ?_
 rintro _ w24 ⟨rfl, e25⟩
 have hB := qa5 (Ext.refl w) e25
 refine ⟨r21, rfl, ?_⟩
 cases hr.trans H.symm
 exact ⟨rfl, hB⟩
def qcQ.vc (x0 x1 : Int) (w : World) (K : VK) : Prop :=
  Cl 179 #[(iv x0)] w fun v21 w22 => (∃ (b23 : Bool), v21 = (.bool b23) ∧ qa1 b23 (Cl 186 #[(iv x1)] w22 fun v24 w25 => (∃ (b26 : Bool), v24 = (.bool b26) ∧ qa1 b26 (((0 : Int) ≤ x1 ∧ K (.bool ((qdH .i64 (Int.fdiv x0 (2 ^ (min (x1.toNat) (IntKind.bits .i64)))) 1) == 1)) w25)) (K (.bool false) w25))) (K (.bool false) w22))

def qcQ.ann : Ann := (.seq .l (.seq .l .l))

theorem qcQ.con {x0 x1 : Int} {r : Bool} {w : World} (hr : r = M.qcQ x0 x1)  :
    Cl 155 #[(iv x0), (iv x1)] w (fun v_ w_ => v_ = (.bool r) ∧ Ext w w_) := by
 have H := wp.qcQ.math x0 x1
 refine begK mixed Tryz.f155 ann (vc x0 x1) ?_
 unfold vc
 unfold wp.qcQ at H
 obtain ⟨r21, hr22, H⟩ := qad H
 refine (qdf.con hr22 ).mono ?_
 rintro _ w24 ⟨rfl, e25⟩
 have hB := qa5 (Ext.refl w) e25
 refine ⟨r21, rfl, ?_⟩
 refine brc H (fun h H => ?_) fun h H => ?_
 ·obtain ⟨r26, hr27, H⟩ := qad H
  refine (qdM.con hr27 ).mono ?_
  rintro _ w29 ⟨rfl, e30⟩
  have hB := qa5 hB e30
  refine ⟨r26, rfl, ?_⟩
  refine brc H (fun h H => ?_) fun h H => ?_
  ·obtain ⟨hc31, H⟩ := H
   refine ⟨hc31, ?_⟩
   cases hr.trans H.symm
   exact ⟨rfl, hB⟩
  cases hr.trans H.symm
  exact ⟨rfl, hB⟩
 cases hr.trans H.symm
 exact ⟨rfl, hB⟩
def qcj.vc (x0 : Int) (w : World) (K : VK) : Prop :=
  Run Tryz.prog (Instr.buildSlice 24 0 #[]) w fun v21 w22 => ∃ (A23 : OA) (n24 c25 : Nat), v21 = .slice A23 n24 c25 ∧ qdA (σ := (OA × Nat × Nat) × Int × Unit) (fun z26 w27 next28 => qa1 (decide (z26.2.1 < 8)) (Cl 155 #[(iv x0), (iv z26.2.1)] w27 fun v29 w30 => (∃ (b31 : Bool), v29 = (.bool b31) ∧ qa1 b31 (Run Tryz.prog (Instr.buildSlice 24 1 #[(0, (iv z26.2.1))]) w30 fun v32 w33 => ∃ (A34 : OA) (n35 c36 : Nat), v32 = .slice A34 n35 c36 ∧ Run Tryz.prog (Builtin.append_ #[24, 24] 24 #[(sv z26.1.1 z26.1.2.1 z26.1.2.2), (sv A34 n35 c36)]) w33 fun v37 w38 => ∃ (A39 : OA) (n40 c41 : Nat), v37 = .slice A39 n40 c41 ∧ next28 ((A39, n40, c41), (wrap .i64 (z26.2.1 + 1)), ()) w38) (next28 ((z26.1.1, z26.1.2.1, z26.1.2.2), (wrap .i64 (z26.2.1 + 1)), ()) w30))) (K (sv z26.1.1 z26.1.2.1 z26.1.2.2) w27)) ((A23, n24, c25), 0, ()) w22

def qcj.ann : Ann := (.seq .l (.seq .l (.seq (.seq .l (.one (.loop [(3, .sl), (6, .int .i64)] (.seq .l (.seq (.two .l .l) (.seq (.one (.seq .l (.seq .l (.two .l .l)))) .l)))))) (.seq .l .l))))

theorem qcj.con {x0 : Int} {r : List Int} {w : World} (hr : r = M.qcj x0)  :
    Cl 105 #[(iv x0)] w (fun v_ w_ => ∃ (A0_ : OA) (c0_ : Nat), v_ = (sv A0_ r.length c0_) ∧ Own el3 w_ w.heap.size A0_ c0_ r ∧ Ext w w_) := by
 have H := wp.qcj.math x0
 have hB := Ext.refl w
 refine begK mixed Tryz.f105 ann (vc x0) ?_
 unfold vc
 unfold wp.qcj at H
 refine qap el3 ([] : List Int) (fun _ => by kernel_rfl) rfl (fun A21 w22 P1 e23 => ?_)
 have O1 := P1.mono hB.size
 have hB := qa5 hB e23
 obtain ⟨J29, ⟨m56, hJ55⟩, hS30⟩ := H
 refine ⟨fun m_ z_ w_ => ∃ (xs24 : List Int) (i27 : Int) (A25 : OA) (c26 : Nat), z_ = ((A25, xs24.length, c26), i27, ()) ∧ J29 m_ (xs24, i27, ()) ∧ Ext w w_ ∧ Own el3 w_ w.heap.size A25 c26 xs24, ⟨m56, ([] : List Int), 0, A21, 0, rfl, hJ55, hB, O1⟩, ?_⟩
 rintro m28 _ w32 ⟨xs24, i27, A25, c26, rfl, hJ57, hB, O2⟩
 have H := hS30 m28 _ hJ57
 clear hS30 hJ57
 try dsimp only at H ⊢
 refine brc H (fun h H => ?_) fun h H => ?_
 ·obtain ⟨r33, hr34, H⟩ := qad H
  refine (qcQ.con hr34 ).mono ?_
  rintro _ w36 ⟨rfl, e37⟩
  have O2 := O2.ext e37
  have hB := qa5 hB e37
  refine ⟨r33, rfl, ?_⟩
  refine brc H (fun h H => ?_) fun h H => ?_
  ·refine qap el3 ([i27] : List Int) (fun _ => by kernel_rfl) rfl (fun A38 w39 P3 e40 => ?_)
   have O2 := O2.ext e40
   have O3 := P3.mono hB.size
   have hB := qa5 hB e40
   obtain ⟨hl45, H⟩ := H
   refine appO qdZ O2 O3.row hB.size hl45 (fun A41 c42 w43 P2 e44 => ?_)
   have hB := eapp hB e44 O2
   have O2 := P2
   obtain ⟨m46, hm47, hJ48⟩ := H
   exact ⟨m46, hm47, _, _, A41, c42, rfl, hJ48, hB, O2⟩
  obtain ⟨m49, hm50, hJ51⟩ := H
  exact ⟨m49, hm50, xs24, _, A25, c26, rfl, hJ51, hB, O2⟩
 cases hr.trans H.symm
 exact ⟨A25, c26, rfl, O2, hB⟩
def qbq.vc (x0 : Int) (w : World) (K : VK) : Prop :=
  ((65536 : Int) ≠ 0 ∧ ((65536 : Int) ≠ 0 ∧ K (iv (Int.tmod (wrap .i64 ((Int.tmod x0 65536) + 65536)) 65536)) w))

def qbq.ann : Ann := (.seq .l (.seq .l .l))

theorem qbq.con {x0 r : Int} {w : World} (hr : r = M.qbq x0)  :
    Cl 245 #[(iv x0)] w (fun v_ w_ => v_ = (iv r) ∧ Ext w w_) := by
 have H := wp.qbq.math x0
 have hB := Ext.refl w
 refine begK mixed Tryz.f245 ann (vc x0) ?_
 unfold vc
 unfold wp.qbq at H
 refine ⟨by decide, by decide, ?_⟩
 cases hr.trans H.symm
 exact ⟨rfl, hB⟩
def qbr.vc (x0 x1 : Int) (w : World) (K : VK) : Prop :=
  Cl 204 #[(iv x0)] w fun v21 w22 => (∃ (b23 : Bool), v21 = (.bool b23) ∧ qa1 (!b23) (K (iv 0) w22) (Cl 204 #[(iv x1)] w22 fun v24 w25 => (∃ (b26 : Bool), v24 = (.bool b26) ∧ qa1 (!b26) (K (iv 0) w25) (Cl 245 #[(iv (wrap .i64 (x0 + x1)))] w25 fun v27 w28 => (∃ (n29 : Int), v27 = (iv n29) ∧ K (iv n29) w28)))))

def qbr.ann : Ann := (.seq .l (.seq (.seq .l (.two (.seq .l .l) .l)) (.seq .l .l)))

theorem qbr.con {x0 x1 r : Int} {w : World} (hr : r = M.qbr x0 x1)  :
    Cl 224 #[(iv x0), (iv x1)] w (fun v_ w_ => v_ = (iv r) ∧ Ext w w_) := by
 have H := wp.qbr.math x0 x1
 refine begK mixed Tryz.f224 ann (vc x0 x1) ?_
 unfold vc
 unfold wp.qbr at H
 obtain ⟨r21, hr22, H⟩ := qad H
 refine (qb4.con hr22 ).mono ?_
 rintro _ w24 ⟨rfl, e25⟩
 have hB := qa5 (Ext.refl w) e25
 refine ⟨r21, rfl, ?_⟩
 refine brc H (fun h H => ?_) fun h H => ?_
 ·cases hr.trans H.symm
  exact ⟨rfl, hB⟩
 obtain ⟨r26, hr27, H⟩ := qad H
 refine (qb4.con hr27 ).mono ?_
 rintro _ w29 ⟨rfl, e30⟩
 have hB := qa5 hB e30
 refine ⟨r26, rfl, ?_⟩
 refine brc H (fun h H => ?_) fun h H => ?_
 ·cases hr.trans H.symm
  exact ⟨rfl, hB⟩
 obtain ⟨r31, hr32, H⟩ := qad H
 refine (qbq.con hr32 ).mono ?_
 rintro _ w34 ⟨rfl, e35⟩
 have hB := qa5 hB e35
 refine ⟨r31, rfl, ?_⟩
 cases hr.trans H.symm
 exact ⟨rfl, hB⟩
def qam.vc (A0 : OA) (n0 c0 f1 : Nat) (cap1 : Array Value) (w : World) (K : VK) : Prop :=
  qdA (σ := Int × Unit) (fun z21 w22 next23 => qa1 (decide (z21.1 < ((n0 : Nat) : Int))) ((idx z21.1 n0 A0 fun a24 => ldI w22 ((a24.add ((z21.1.toNat) * 1)).add 0) fun n25 => Cl f1 (#[(iv n25)] ++ cap1) w22 fun v26 w27 => (∃ (b28 : Bool), v26 = (.bool b28) ∧ qa1 b28 (K (iv z21.1) w27) (next23 ((wrap .i64 (z21.1 + 1)), ()) w27)))) (K (iv (-1)) w22)) (0, ()) w

def qam.ann : Ann := (.seq .l (.seq (.seq .l (.one (.loop [(8, .int .i64)] (.seq .l (.seq (.two .l .l) (.seq (.one (.seq .l (.seq .l (.two (.seq .l .l) .l)))) .l)))))) (.seq .l .l)))

theorem qam.start {A0 : OA} {n0 c0 f1 : Nat} {cap1 : Array Value} {w : World} {K : Value → World → Prop} (h : qam.vc A0 n0 c0 f1 cap1 w K) : Cl 146 #[(sv A0 n0 c0), (.func (.func f1) #[] cap1)] w K :=
  qex mixed (fn := Tryz.f146) (by kernel_rfl) (by kernel_rfl) (an := qam.ann) (args := [(sv A0 n0 c0), (.func (.func f1) #[] cap1)]) (Eq.mpr (by kernel_rfl) h)

theorem qam.con {xs0 : List Int} {A0 : OA} {c0 f1 : Nat} {cap1 : Array Value} {g1 : Int → Bool} {D1 : Int → Prop} {r : Int} {w : World} (hp : M.qdm xs0 g1 D1) (hr : r = M.qam xs0 g1) (R0 : Row el3 w A0 xs0) (hc0 : xs0.length ≤ c0) (F1 : ∀ (z0_ : Int), D1 z0_ → ∀ w_ : World, Ext w w_ → Cl f1 (#[(iv z0_)] ++ cap1) w_ (fun v_ w1_ => v_ = (.bool (g1 z0_)) ∧ Ext w_ w1_)) :
    Cl 146 #[(sv A0 xs0.length c0), (.func (.func f1) #[] cap1)] w (fun v_ w_ => v_ = (iv r) ∧ Ext w w_) := by
 have H := wp.qam.math xs0 g1 D1 hp
 have hB := Ext.refl w
 refine qam.start ?_
 unfold vc
 unfold wp.qam at H
 obtain ⟨J23, ⟨m44, hJ43⟩, hS24⟩ := H
 refine ⟨fun m_ z_ w_ => ∃ (i21 : Int), z_ = (i21, ()) ∧ J23 m_ (i21, ()) ∧ Ext w w_, ⟨m44, 0, rfl, hJ43, hB⟩, ?_⟩
 rintro m22 _ w26 ⟨i21, rfl, hJ45, hB⟩
 have H := hS24 m22 _ hJ45
 clear hS24 hJ45
 try dsimp only at H ⊢
 refine brc H (fun h H => ?_) fun h H => ?_
 ·obtain ⟨⟨h0_30, h1_31⟩, H⟩ := H
  obtain ⟨a28, ha29, hat27⟩ := Row.at (R0.ext hB) h0_30 h1_31
  refine ⟨h0_30, h1_31, a28, ha29, _, (hat27 0 _ rfl), ?_⟩
  obtain ⟨hd34, H⟩ := H
  obtain ⟨r32, hr33, H⟩ := qad H
  refine (F1 (rd xs0 i21) hd34 _ hB).mono ?_
  rintro _ w35 ⟨rfl, e36⟩
  rw [← hr33]
  have hB := qa5 hB e36
  refine ⟨r32, rfl, ?_⟩
  refine brc H (fun h H => ?_) fun h H => ?_
  ·cases hr.trans H.symm
   exact ⟨rfl, hB⟩
  obtain ⟨m37, hm38, hJ39⟩ := H
  exact ⟨m37, hm38, _, rfl, hJ39, hB⟩
 cases hr.trans H.symm
 exact ⟨rfl, hB⟩
def qak.vc (A0 : OA) (n0 c0 f1 : Nat) (cap1 : Array Value) (w : World) (K : VK) : Prop :=
  Cl 146 #[(sv A0 n0 c0), (.func (.func f1) #[] cap1)] w fun v21 w22 => (∃ (n23 : Int), v21 = (iv n23) ∧ K (.bool (decide (n23 ≥ 0))) w22)

def qak.ann : Ann := (.seq .l (.seq .l .l))

theorem qak.start {A0 : OA} {n0 c0 f1 : Nat} {cap1 : Array Value} {w : World} {K : Value → World → Prop} (h : qak.vc A0 n0 c0 f1 cap1 w K) : Cl 90 #[(sv A0 n0 c0), (.func (.func f1) #[] cap1)] w K :=
  qex mixed (fn := Tryz.f90) (by kernel_rfl) (by kernel_rfl) (an := qak.ann) (args := [(sv A0 n0 c0), (.func (.func f1) #[] cap1)]) (Eq.mpr (by kernel_rfl) h)

theorem qak.con {xs0 : List Int} {A0 : OA} {c0 f1 : Nat} {cap1 : Array Value} {g1 : Int → Bool} {D1 : Int → Prop} {r : Bool} {w : World} (hp : M.qcU xs0 g1 D1) (hr : r = M.qak xs0 g1) (R0 : Row el3 w A0 xs0) (hc0 : xs0.length ≤ c0) (F1 : ∀ (z0_ : Int), D1 z0_ → ∀ w_ : World, Ext w w_ → Cl f1 (#[(iv z0_)] ++ cap1) w_ (fun v_ w1_ => v_ = (.bool (g1 z0_)) ∧ Ext w_ w1_)) :
    Cl 90 #[(sv A0 xs0.length c0), (.func (.func f1) #[] cap1)] w (fun v_ w_ => v_ = (.bool r) ∧ Ext w w_) := by
 have H := wp.qak.math xs0 g1 D1 hp
 have hB := Ext.refl w
 refine qak.start ?_
 unfold vc
 unfold wp.qak at H
 obtain ⟨hp23, H⟩ := H
 obtain ⟨r21, hr22, H⟩ := qad H
 refine (qam.con hp23 hr22 (R0.ext hB) hc0 (fun z0_  h_ w_ e_ => F1 z0_  h_ w_ (qa5 hB e_))).mono ?_
 rintro _ w24 ⟨rfl, e25⟩
 have hB := qa5 hB e25
 refine ⟨r21, rfl, ?_⟩
 cases hr.trans H.symm
 exact ⟨rfl, hB⟩
def qbR.vc (x0 : Int) (w : World) (K : VK) : Prop :=
  Cl 178 #[(iv x0)] w fun v21 w22 => (∃ (b23 : Bool), v21 = (.bool b23) ∧ K (.bool (!b23)) w22)

def qbR.ann : Ann := (.seq .l (.seq .l .l))

theorem qbR.con {x0 : Int} {r : Bool} {w : World} (hr : r = M.qbR x0)  :
    Cl 177 #[(iv x0)] w (fun v_ w_ => v_ = (.bool r) ∧ Ext w w_) := by
 have H := wp.qbR.math x0
 refine begK mixed Tryz.f177 ann (vc x0) ?_
 unfold vc
 unfold wp.qbR at H
 obtain ⟨r21, hr22, H⟩ := qad H
 refine (qbD.con hr22 ).mono ?_
 rintro _ w24 ⟨rfl, e25⟩
 have hB := qa5 (Ext.refl w) e25
 refine ⟨r21, rfl, ?_⟩
 cases hr.trans H.symm
 exact ⟨rfl, hB⟩
def qbT.vc (A0 : OA) (n0 c0 : Nat) (w : World) (K : VK) : Prop :=
  Cl 90 #[(sv A0 n0 c0), (.func (.func 177) #[] #[])] w fun v21 w22 => (∃ (b23 : Bool), v21 = (.bool b23) ∧ K (.bool (!b23)) w22)

def qbT.ann : Ann := (.seq .l (.seq .l .l))

theorem qbT.con {xs0 : List Int} {A0 : OA} {c0 : Nat} {r : Bool} {w : World} (hp : M.qeS xs0) (hr : r = M.qbT xs0) (R0 : Row el3 w A0 xs0) (hc0 : xs0.length ≤ c0) :
    Cl 136 #[(sv A0 xs0.length c0)] w (fun v_ w_ => v_ = (.bool r) ∧ Ext w w_) := by
 have H := wp.qbT.math xs0 hp
 have hB := Ext.refl w
 refine begK mixed Tryz.f136 ann (vc A0 xs0.length c0) ?_
 unfold vc
 unfold wp.qbT at H
 obtain ⟨hp23, H⟩ := H
 obtain ⟨r21, hr22, H⟩ := qad H
 refine (qak.con hp23 hr22 (R0.ext hB) hc0 (fun z0_ h_ w_ e_ => qjj (l1 := [_]) (l2 := []) (qbR.con rfl))).mono ?_
 rintro _ w24 ⟨rfl, e25⟩
 have hB := qa5 hB e25
 refine ⟨r21, rfl, ?_⟩
 cases hr.trans H.symm
 exact ⟨rfl, hB⟩
def qcW.vc (x0 : Int) (w : World) (K : VK) : Prop :=
  K (iv (qdH .i64 x0 65535)) w

def qcW.ann : Ann := (.seq .l (.seq .l .l))

theorem qcW.con {x0 r : Int} {w : World} (hr : r = M.qcW x0)  :
    Cl 228 #[(iv x0)] w (fun v_ w_ => v_ = (iv r) ∧ Ext w w_) := by
 have H := wp.qcW.math x0
 have hB := Ext.refl w
 refine begK mixed Tryz.f228 ann (vc x0) ?_
 unfold vc
 unfold wp.qcW at H
 cases hr.trans H.symm
 exact ⟨rfl, hB⟩
def qbk.vc (x0 x1 x2 : Int) (w : World) (K : VK) : Prop :=
  Cl 178 #[(iv x0)] w fun v21 w22 => (∃ (b23 : Bool), v21 = (.bool b23) ∧ qa1 (!b23) (K (iv 0) w22) (Cl 178 #[(iv x1)] w22 fun v24 w25 => (∃ (b26 : Bool), v24 = (.bool b26) ∧ qa1 (!b26) (K (iv 0) w25) (Cl 228 #[(iv x2)] w25 fun v27 w28 => (∃ (n29 : Int), v27 = (iv n29) ∧ K (iv n29) w28)))))

def qbk.ann : Ann := (.seq .l (.seq (.seq .l (.two (.seq .l .l) .l)) (.seq .l .l)))

theorem qbk.con {x0 x1 x2 r : Int} {w : World} (hr : r = M.qbk x0 x1 x2)  :
    Cl 207 #[(iv x0), (iv x1), (iv x2)] w (fun v_ w_ => v_ = (iv r) ∧ Ext w w_) := by
 have H := wp.qbk.math x0 x1 x2
 refine begK mixed Tryz.f207 ann (vc x0 x1 x2) ?_
 unfold vc
 unfold wp.qbk at H
 obtain ⟨r21, hr22, H⟩ := qad H
 refine (qbD.con hr22 ).mono ?_
 rintro _ w24 ⟨rfl, e25⟩
 have hB := qa5 (Ext.refl w) e25
 refine ⟨r21, rfl, ?_⟩
 refine brc H (fun h H => ?_) fun h H => ?_
 ·cases hr.trans H.symm
  exact ⟨rfl, hB⟩
 obtain ⟨r26, hr27, H⟩ := qad H
 refine (qbD.con hr27 ).mono ?_
 rintro _ w29 ⟨rfl, e30⟩
 have hB := qa5 hB e30
 refine ⟨r26, rfl, ?_⟩
 refine brc H (fun h H => ?_) fun h H => ?_
 ·cases hr.trans H.symm
  exact ⟨rfl, hB⟩
 obtain ⟨r31, hr32, H⟩ := qad H
 refine (qcW.con hr32 ).mono ?_
 rintro _ w34 ⟨rfl, e35⟩
 have hB := qa5 hB e35
 refine ⟨r31, rfl, ?_⟩
 cases hr.trans H.symm
 exact ⟨rfl, hB⟩
def qbQ.vc (x0 x1 : Int) (w : World) (K : VK) : Prop :=
  Cl 207 #[(iv x0), (iv x1), (iv (wrap .i64 (x0 + x1)))] w fun v21 w22 => (∃ (n23 : Int), v21 = (iv n23) ∧ K (iv n23) w22)

def qbQ.ann : Ann := (.seq .l (.seq .l .l))

theorem qbQ.con {x0 x1 r : Int} {w : World} (hr : r = M.qbQ x0 x1)  :
    Cl 173 #[(iv x0), (iv x1)] w (fun v_ w_ => v_ = (iv r) ∧ Ext w w_) := by
 have H := wp.qbQ.math x0 x1
 refine begK mixed Tryz.f173 ann (vc x0 x1) ?_
 unfold vc
 unfold wp.qbQ at H
 obtain ⟨r21, hr22, H⟩ := qad H
 refine (qbk.con hr22 ).mono ?_
 rintro _ w24 ⟨rfl, e25⟩
 have hB := qa5 (Ext.refl w) e25
 refine ⟨r21, rfl, ?_⟩
 cases hr.trans H.symm
 exact ⟨rfl, hB⟩
def qdQ.vc (x0 : Int) (w : World) (K : VK) : Prop :=
  Cl 99 #[(iv x0), (iv 0), (iv 255)] w fun v21 w22 => (∃ (b23 : Bool), v21 = (.bool b23) ∧ K (.bool b23) w22)

def qdQ.ann : Ann := (.seq .l (.seq .l .l))

theorem qdQ.con {x0 : Int} {r : Bool} {w : World} (hr : r = M.qdQ x0)  :
    Cl 153 #[(iv x0)] w (fun v_ w_ => v_ = (.bool r) ∧ Ext w w_) := by
 have H := wp.qdQ.math x0
 refine begK mixed Tryz.f153 ann (vc x0) ?_
 unfold vc
 unfold wp.qdQ at H
 obtain ⟨r21, hr22, H⟩ := qad H
 refine (qaQ.con hr22 ).mono ?_
 rintro _ w24 ⟨rfl, e25⟩
 have hB := qa5 (Ext.refl w) e25
 refine ⟨r21, rfl, ?_⟩
 cases hr.trans H.symm
 exact ⟨rfl, hB⟩
def qbG.vc (x0 x1 : Int) (w : World) (K : VK) : Prop :=
  Cl 153 #[(iv x0)] w fun v21 w22 => (∃ (b23 : Bool), v21 = (.bool b23) ∧ qa1 b23 (Cl 99 #[(iv x1), (iv 0), (iv 7)] w22 fun v24 w25 => (∃ (b26 : Bool), v24 = (.bool b26) ∧ qa1 b26 (((0 : Int) ≤ x1 ∧ K (.bool ((qdH .i64 (Int.fdiv x0 (2 ^ (min (x1.toNat) (IntKind.bits .i64)))) 1) == 1)) w25)) (K (.bool false) w25))) (K (.bool false) w22))

def qbG.ann : Ann := (.seq .l (.seq .l .l))

theorem qbG.con {x0 x1 : Int} {r : Bool} {w : World} (hr : r = M.qbG x0 x1)  :
    Cl 101 #[(iv x0), (iv x1)] w (fun v_ w_ => v_ = (.bool r) ∧ Ext w w_) := by
 have H := wp.qbG.math x0 x1
 refine begK mixed Tryz.f101 ann (vc x0 x1) ?_
 unfold vc
 unfold wp.qbG at H
 obtain ⟨r21, hr22, H⟩ := qad H
 refine (qdQ.con hr22 ).mono ?_
 rintro _ w24 ⟨rfl, e25⟩
 have hB := qa5 (Ext.refl w) e25
 refine ⟨r21, rfl, ?_⟩
 refine brc H (fun h H => ?_) fun h H => ?_
 ·obtain ⟨r26, hr27, H⟩ := qad H
  refine (qaQ.con hr27 ).mono ?_
  rintro _ w29 ⟨rfl, e30⟩
  have hB := qa5 hB e30
  refine ⟨r26, rfl, ?_⟩
  refine brc H (fun h H => ?_) fun h H => ?_
  ·obtain ⟨hc31, H⟩ := H
   refine ⟨hc31, ?_⟩
   cases hr.trans H.symm
   exact ⟨rfl, hB⟩
  cases hr.trans H.symm
  exact ⟨rfl, hB⟩
 cases hr.trans H.symm
 exact ⟨rfl, hB⟩
def qcA.vc (x0_0 x0_1 x0_2 x0_3 : Int) (w : World) (K : VK) : Prop :=
  newK w (.cells #[(iv x0_0), (iv x0_1), (iv x0_2), (iv x0_3)] 84) fun g21 w22 => ldI w22 (((bx g21).add 0).add 0) fun n23 => Cl 99 #[(iv n23), (iv 0), (iv 12)] w22 fun v24 w25 => (∃ (b26 : Bool), v24 = (.bool b26) ∧ K (.bool b26) w25)

def qcA.ann : Ann := (.seq .l (.seq .l .l))

theorem qcA.con {s0 : D.Ins} {r : Bool} {w : World} (hr : r = M.qcA s0)  :
    Cl 124 #[(.agg (iC s0))] w (fun v_ w_ => v_ = (.bool r) ∧ Ext w w_) := by
 have H := wp.qcA.math s0
 refine begK mixed Tryz.f124 ann (vc s0.Op s0.A s0.B s0.C) ?_
 unfold vc
 unfold wp.qcA at H
 refine qax (fun g1_ w21 L1 O1 e22 => ?_)
 refine ⟨_, (O1.a 0), ?_⟩
 obtain ⟨r23, hr24, H⟩ := qad H
 refine (qaQ.con hr24 ).mono ?_
 rintro _ w26 ⟨rfl, e27⟩
 have hB := qa5 (qa5 (Ext.refl w) e22) e27
 refine ⟨r23, rfl, ?_⟩
 cases hr.trans H.symm
 exact ⟨rfl, hB⟩
def qaZ.vc (x0 : Int) (w : World) (K : VK) : Prop :=
  Cl 99 #[(iv x0), (iv 0), (iv 3)] w fun v21 w22 => (∃ (b23 : Bool), v21 = (.bool b23) ∧ K (.bool b23) w22)

def qaZ.ann : Ann := (.seq .l (.seq .l .l))

theorem qaZ.con {x0 : Int} {r : Bool} {w : World} (hr : r = M.qaZ x0)  :
    Cl 220 #[(iv x0)] w (fun v_ w_ => v_ = (.bool r) ∧ Ext w w_) := by
 have H := wp.qaZ.math x0
 refine begK mixed Tryz.f220 ann (vc x0) ?_
 unfold vc
 unfold wp.qaZ at H
 obtain ⟨r21, hr22, H⟩ := qad H
 refine (qaQ.con hr22 ).mono ?_
 rintro _ w24 ⟨rfl, e25⟩
 have hB := qa5 (Ext.refl w) e25
 refine ⟨r21, rfl, ?_⟩
 cases hr.trans H.symm
 exact ⟨rfl, hB⟩
def qdJ.vc (x0_0 x0_1 x0_2 x0_3 x1 : Int) (w : World) (K : VK) : Prop :=
  newK w (.cells #[(iv x0_0), (iv x0_1), (iv x0_2), (iv x0_3)] 84) fun g21 w22 => Cl 99 #[(iv x1), (iv 0), (iv 32)] w22 fun v23 w24 => (∃ (b25 : Bool), v23 = (.bool b25) ∧ qa1 (!b25) (K (.bool false) w24) (ldI w24 (((bx g21).add 0).add 0) fun n27 => qfL (σ := Bool × Unit) (fun J28 => qa1 (n27 == 0) (J28 (true, ()) w24) (qa1 (n27 == 12) (J28 (true, ()) w24) (J28 ((n27 == 16), ()) w24))) fun z29 w30 => qa1 z29.1 (ldI w30 (((bx g21).add 1).add 0) fun n31 => qa1 (n31 == 0) (ldI w30 (((bx g21).add 2).add 0) fun n32 => qa1 (n32 == 0) (ldI w30 (((bx g21).add 3).add 0) fun n33 => K (.bool (n33 == 0)) w30) (K (.bool false) w30)) (K (.bool false) w30)) (qa1 (n27 == 1) (ldI w30 (((bx g21).add 1).add 0) fun n34 => Cl 220 #[(iv n34)] w30 fun v35 w36 => (∃ (b37 : Bool), v35 = (.bool b37) ∧ qa1 b37 (ldI w36 (((bx g21).add 2).add 0) fun n38 => Cl 204 #[(iv n38)] w36 fun v39 w40 => (∃ (b41 : Bool), v39 = (.bool b41) ∧ qa1 b41 (ldI w40 (((bx g21).add 3).add 0) fun n42 => K (.bool (n42 == 0)) w40) (K (.bool false) w40))) (K (.bool false) w36))) (qfL (σ := Bool × Unit) (fun J43 => qa1 (n27 == 2) (J43 (true, ()) w30) (qa1 (n27 == 13) (J43 (true, ()) w30) (qa1 (n27 == 14) (J43 (true, ()) w30) (J43 ((n27 == 15), ()) w30)))) fun z44 w45 => qa1 z44.1 (ldI w45 (((bx g21).add 1).add 0) fun n46 => Cl 220 #[(iv n46)] w45 fun v47 w48 => (∃ (b49 : Bool), v47 = (.bool b49) ∧ qa1 b49 (ldI w48 (((bx g21).add 2).add 0) fun n50 => Cl 220 #[(iv n50)] w48 fun v51 w52 => (∃ (b53 : Bool), v51 = (.bool b53) ∧ qa1 b53 (ldI w52 (((bx g21).add 3).add 0) fun n54 => K (.bool (n54 == 0)) w52) (K (.bool false) w52))) (K (.bool false) w48))) (qa1 (n27 == 8) (ldI w45 (((bx g21).add 1).add 0) fun n55 => Cl 220 #[(iv n55)] w45 fun v56 w57 => (∃ (b58 : Bool), v56 = (.bool b58) ∧ qa1 b58 (ldI w57 (((bx g21).add 2).add 0) fun n59 => qa1 (n59 == 0) (ldI w57 (((bx g21).add 3).add 0) fun n60 => K (.bool (n60 == 0)) w57) (K (.bool false) w57)) (K (.bool false) w57))) (qa1 (n27 == 10) (ldI w45 (((bx g21).add 1).add 0) fun n61 => Cl 220 #[(iv n61)] w45 fun v62 w63 => (∃ (b64 : Bool), v62 = (.bool b64) ∧ qa1 b64 (ldI w63 (((bx g21).add 2).add 0) fun n65 => Cl 99 #[(iv n65), (iv 0), (iv x1)] w63 fun v66 w67 => (∃ (b68 : Bool), v66 = (.bool b68) ∧ qa1 b68 (ldI w67 (((bx g21).add 3).add 0) fun n69 => K (.bool (n69 == 0)) w67) (K (.bool false) w67))) (K (.bool false) w63))) (qa1 (n27 == 11) (ldI w45 (((bx g21).add 1).add 0) fun n70 => qa1 (n70 == 0) (ldI w45 (((bx g21).add 2).add 0) fun n71 => Cl 99 #[(iv n71), (iv 0), (iv x1)] w45 fun v72 w73 => (∃ (b74 : Bool), v72 = (.bool b74) ∧ qa1 b74 (ldI w73 (((bx g21).add 3).add 0) fun n75 => K (.bool (n75 == 0)) w73) (K (.bool false) w73))) (K (.bool false) w45)) (ldI w45 (((bx g21).add 0).add 0) fun n76 => Cl 99 #[(iv n76), (iv 3), (iv 9)] w45 fun v77 w78 => (∃ (b79 : Bool), v77 = (.bool b79) ∧ qa1 b79 (ldI w78 (((bx g21).add 1).add 0) fun n80 => Cl 220 #[(iv n80)] w78 fun v81 w82 => (∃ (b83 : Bool), v81 = (.bool b83) ∧ qa1 b83 (ldI w82 (((bx g21).add 2).add 0) fun n84 => Cl 220 #[(iv n84)] w82 fun v85 w86 => (∃ (b87 : Bool), v85 = (.bool b87) ∧ qa1 b87 (ldI w86 (((bx g21).add 3).add 0) fun n88 => Cl 220 #[(iv n88)] w86 fun v89 w90 => (∃ (b91 : Bool), v89 = (.bool b91) ∧ K (.bool b91) w90)) (K (.bool false) w86))) (K (.bool false) w82))) (K (.bool false) w78))))))))))

def qdJ.ann : Ann := (.seq .l (.seq (.seq .l (.two (.seq .l .l) .l)) (.seq (.seq .l (.one (.cut [(10, .bool)] (.seq .l (.two .l (.seq .l (.two .l .l)))) (.two (.seq .l .l) (.seq .l (.two (.seq .l .l) (.cut [(42, .bool)] (.seq .l (.two .l (.seq .l (.two .l (.seq .l (.two .l .l)))))) (.two (.seq .l .l) (.seq .l (.two (.seq .l .l) (.seq .l (.two (.seq .l .l) (.seq .l (.two (.seq .l .l) .l)))))))))))))) (.seq .l .l))))

theorem qdJ.con {s0 : D.Ins} {x1 : Int} {r : Bool} {w : World} (hr : r = M.qdJ s0 x1)  :
    Cl 198 #[(.agg (iC s0)), (iv x1)] w (fun v_ w_ => v_ = (.bool r) ∧ Ext w w_) := by
 have H := wp.qdJ.math s0 x1
 refine begK mixed Tryz.f198 ann (vc s0.Op s0.A s0.B s0.C x1) ?_
 unfold vc
 unfold wp.qdJ at H
 refine qax (fun g1_ w21 L1 O1 e22 => ?_)
 obtain ⟨r23, hr24, H⟩ := qad H
 refine (qaQ.con hr24 ).mono ?_
 rintro _ w26 ⟨rfl, e27⟩
 have O1 := O1.ext e27
 have hB := qa5 (qa5 (Ext.refl w) e22) e27
 refine ⟨r23, rfl, ?_⟩
 refine brc H (fun h H => ?_) fun h H => ?_
 ·cases hr.trans H.symm
  exact ⟨rfl, hB⟩
 refine ⟨_, (O1.a 0), ?_⟩
 obtain ⟨K125, hKK125, H⟩ := qcR H
 refine ⟨fun z_ w_ => ∃ (b28 : Bool), z_ = (b28, ()) ∧ K125 (b28, ()) ∧ Ext w w_ ∧ Blk w_ g1_ 84 (iC s0), ?_, ?_⟩
 ·refine brc H (fun h H => ?_) fun h H => ?_
  ·exact ⟨true, rfl, H, hB, O1⟩
  refine brc H (fun h H => ?_) fun h H => ?_
  ·exact ⟨true, rfl, H, hB, O1⟩
  exact ⟨_, rfl, H, hB, O1⟩
 rintro _ w30 ⟨b28, rfl, H, hB, O1⟩
 have H := hKK125 _ H
 try dsimp only at H ⊢
 refine brc H (fun h H => ?_) fun h H => ?_
 ·refine ⟨_, (O1.a 1), ?_⟩
  refine brc H (fun h H => ?_) fun h H => ?_
  ·refine ⟨_, (O1.a 2), ?_⟩
   refine brc H (fun h H => ?_) fun h H => ?_
   ·refine ⟨_, (O1.a 3), ?_⟩
    cases hr.trans H.symm
    exact ⟨rfl, hB⟩
   cases hr.trans H.symm
   exact ⟨rfl, hB⟩
  cases hr.trans H.symm
  exact ⟨rfl, hB⟩
 refine brc H (fun h H => ?_) fun h H => ?_
 ·refine ⟨_, (O1.a 1), ?_⟩
  obtain ⟨r36, hr37, H⟩ := qad H
  refine (qaZ.con hr37 ).mono ?_
  rintro _ w39 ⟨rfl, e40⟩
  have O1 := O1.ext e40
  have hB := qa5 hB e40
  refine ⟨r36, rfl, ?_⟩
  refine brc H (fun h H => ?_) fun h H => ?_
  ·refine ⟨_, (O1.a 2), ?_⟩
   obtain ⟨r41, hr42, H⟩ := qad H
   refine (qb4.con hr42 ).mono ?_
   rintro _ w44 ⟨rfl, e45⟩
   have O1 := O1.ext e45
   have hB := qa5 hB e45
   refine ⟨r41, rfl, ?_⟩
   refine brc H (fun h H => ?_) fun h H => ?_
   ·refine ⟨_, (O1.a 3), ?_⟩
    cases hr.trans H.symm
    exact ⟨rfl, hB⟩
   cases hr.trans H.symm
   exact ⟨rfl, hB⟩
  cases hr.trans H.symm
  exact ⟨rfl, hB⟩
 obtain ⟨K121, hKK121, H⟩ := qcR H
 refine ⟨fun z_ w_ => ∃ (b48 : Bool), z_ = (b48, ()) ∧ K121 (b48, ()) ∧ Ext w w_ ∧ Blk w_ g1_ 84 (iC s0), ?_, ?_⟩
 ·refine brc H (fun h H => ?_) fun h H => ?_
  ·exact ⟨true, rfl, H, hB, O1⟩
  refine brc H (fun h H => ?_) fun h H => ?_
  ·exact ⟨true, rfl, H, hB, O1⟩
  refine brc H (fun h H => ?_) fun h H => ?_
  ·exact ⟨true, rfl, H, hB, O1⟩
  exact ⟨_, rfl, H, hB, O1⟩
 rintro _ w50 ⟨b48, rfl, H, hB, O1⟩
 have H := hKK121 _ H
 try dsimp only at H ⊢
 refine brc H (fun h H => ?_) fun h H => ?_
 ·refine ⟨_, (O1.a 1), ?_⟩
  obtain ⟨r55, hr56, H⟩ := qad H
  refine (qaZ.con hr56 ).mono ?_
  rintro _ w58 ⟨rfl, e59⟩
  have O1 := O1.ext e59
  have hB := qa5 hB e59
  refine ⟨r55, rfl, ?_⟩
  refine brc H (fun h H => ?_) fun h H => ?_
  ·refine ⟨_, (O1.a 2), ?_⟩
   obtain ⟨r60, hr61, H⟩ := qad H
   refine (qaZ.con hr61 ).mono ?_
   rintro _ w63 ⟨rfl, e64⟩
   have O1 := O1.ext e64
   have hB := qa5 hB e64
   refine ⟨r60, rfl, ?_⟩
   refine brc H (fun h H => ?_) fun h H => ?_
   ·refine ⟨_, (O1.a 3), ?_⟩
    cases hr.trans H.symm
    exact ⟨rfl, hB⟩
   cases hr.trans H.symm
   exact ⟨rfl, hB⟩
  cases hr.trans H.symm
  exact ⟨rfl, hB⟩
 refine brc H (fun h H => ?_) fun h H => ?_
 ·refine ⟨_, (O1.a 1), ?_⟩
  obtain ⟨r67, hr68, H⟩ := qad H
  refine (qaZ.con hr68 ).mono ?_
  rintro _ w70 ⟨rfl, e71⟩
  have O1 := O1.ext e71
  have hB := qa5 hB e71
  refine ⟨r67, rfl, ?_⟩
  refine brc H (fun h H => ?_) fun h H => ?_
  ·refine ⟨_, (O1.a 2), ?_⟩
   refine brc H (fun h H => ?_) fun h H => ?_
   ·refine ⟨_, (O1.a 3), ?_⟩
    cases hr.trans H.symm
    exact ⟨rfl, hB⟩
   cases hr.trans H.symm
   exact ⟨rfl, hB⟩
  cases hr.trans H.symm
  exact ⟨rfl, hB⟩
 refine brc H (fun h H => ?_) fun h H => ?_
 ·refine ⟨_, (O1.a 1), ?_⟩
  obtain ⟨r74, hr75, H⟩ := qad H
  refine (qaZ.con hr75 ).mono ?_
  rintro _ w77 ⟨rfl, e78⟩
  have O1 := O1.ext e78
  have hB := qa5 hB e78
  refine ⟨r74, rfl, ?_⟩
  refine brc H (fun h H => ?_) fun h H => ?_
  ·refine ⟨_, (O1.a 2), ?_⟩
   obtain ⟨r79, hr80, H⟩ := qad H
   refine (qaQ.con hr80 ).mono ?_
   rintro _ w82 ⟨rfl, e83⟩
   have O1 := O1.ext e83
   have hB := qa5 hB e83
   refine ⟨r79, rfl, ?_⟩
   refine brc H (fun h H => ?_) fun h H => ?_
   ·refine ⟨_, (O1.a 3), ?_⟩
    cases hr.trans H.symm
    exact ⟨rfl, hB⟩
   cases hr.trans H.symm
   exact ⟨rfl, hB⟩
  cases hr.trans H.symm
  exact ⟨rfl, hB⟩
 refine brc H (fun h H => ?_) fun h H => ?_
 ·refine ⟨_, (O1.a 1), ?_⟩
  refine brc H (fun h H => ?_) fun h H => ?_
  ·refine ⟨_, (O1.a 2), ?_⟩
   obtain ⟨r86, hr87, H⟩ := qad H
   refine (qaQ.con hr87 ).mono ?_
   rintro _ w89 ⟨rfl, e90⟩
   have O1 := O1.ext e90
   have hB := qa5 hB e90
   refine ⟨r86, rfl, ?_⟩
   refine brc H (fun h H => ?_) fun h H => ?_
   ·refine ⟨_, (O1.a 3), ?_⟩
    cases hr.trans H.symm
    exact ⟨rfl, hB⟩
   cases hr.trans H.symm
   exact ⟨rfl, hB⟩
  cases hr.trans H.symm
  exact ⟨rfl, hB⟩
 refine ⟨_, (O1.a 0), ?_⟩
 obtain ⟨r93, hr94, H⟩ := qad H
 refine (qaQ.con hr94 ).mono ?_
 rintro _ w96 ⟨rfl, e97⟩
 have O1 := O1.ext e97
 have hB := qa5 hB e97
 refine ⟨r93, rfl, ?_⟩
 refine brc H (fun h H => ?_) fun h H => ?_
 ·refine ⟨_, (O1.a 1), ?_⟩
  obtain ⟨r98, hr99, H⟩ := qad H
  refine (qaZ.con hr99 ).mono ?_
  rintro _ w101 ⟨rfl, e102⟩
  have O1 := O1.ext e102
  have hB := qa5 hB e102
  refine ⟨r98, rfl, ?_⟩
  refine brc H (fun h H => ?_) fun h H => ?_
  ·refine ⟨_, (O1.a 2), ?_⟩
   obtain ⟨r103, hr104, H⟩ := qad H
   refine (qaZ.con hr104 ).mono ?_
   rintro _ w106 ⟨rfl, e107⟩
   have O1 := O1.ext e107
   have hB := qa5 hB e107
   refine ⟨r103, rfl, ?_⟩
   refine brc H (fun h H => ?_) fun h H => ?_
   ·refine ⟨_, (O1.a 3), ?_⟩
    obtain ⟨r108, hr109, H⟩ := qad H
    refine (qaZ.con hr109 ).mono ?_
    rintro _ w111 ⟨rfl, e112⟩
    have hB := qa5 hB e112
    refine ⟨r108, rfl, ?_⟩
    cases hr.trans H.symm
    exact ⟨rfl, hB⟩
   cases hr.trans H.symm
   exact ⟨rfl, hB⟩
  cases hr.trans H.symm
  exact ⟨rfl, hB⟩
 cases hr.trans H.symm
 exact ⟨rfl, hB⟩
def qb6.vc (A0 : OA) (n0 c0 : Nat) (w : World) (K : VK) : Prop :=
  qdA (σ := Int × Unit) (fun z21 w22 next23 => qa1 (decide (z21.1 < ((n0 : Nat) : Int))) ((idx z21.1 n0 A0 fun a24 => ldI w22 ((a24.add ((z21.1.toNat) * 4)).add 0) fun n25 => ldI w22 ((a24.add ((z21.1.toNat) * 4)).add 1) fun n26 => ldI w22 ((a24.add ((z21.1.toNat) * 4)).add 2) fun n27 => ldI w22 ((a24.add ((z21.1.toNat) * 4)).add 3) fun n28 => Cl 198 #[(.agg #[(iv n25), (iv n26), (iv n27), (iv n28)]), (iv ((n0 : Nat) : Int))] w22 fun v29 w30 => (∃ (b31 : Bool), v29 = (.bool b31) ∧ qa1 (!b31) (K (.bool false) w30) (next23 ((wrap .i64 (z21.1 + 1)), ()) w30)))) (K (.bool (decide (((n0 : Nat) : Int) ≤ 32))) w22)) (0, ()) w

def qb6.ann : Ann := (.seq .l (.seq (.seq .l (.one (.loop [(3, .int .i64)] (.seq (.seq .l (.two .l .l)) (.seq (.one (.seq .l (.two (.seq .l .l) .l))) .l))))) (.seq .l .l)))

theorem qb6.con {xs0 : List D.Ins} {A0 : OA} {c0 : Nat} {r : Bool} {w : World} (hp : M.qeb xs0) (hr : r = M.qb6 xs0) (R0 : Row el84 w A0 xs0) (hc0 : xs0.length ≤ c0) :
    Cl 160 #[(sv A0 xs0.length c0)] w (fun v_ w_ => v_ = (.bool r) ∧ Ext w w_) := by
 have H := wp.qb6.math xs0 hp
 have hB := Ext.refl w
 refine begK mixed Tryz.f160 ann (vc A0 xs0.length c0) ?_
 unfold vc
 unfold wp.qb6 at H
 obtain ⟨J23, ⟨m44, hJ43⟩, hS24⟩ := H
 refine ⟨fun m_ z_ w_ => ∃ (i21 : Int), z_ = (i21, ()) ∧ J23 m_ (i21, ()) ∧ Ext w w_, ⟨m44, 0, rfl, hJ43, hB⟩, ?_⟩
 rintro m22 _ w26 ⟨i21, rfl, hJ45, hB⟩
 have H := hS24 m22 _ hJ45
 clear hS24 hJ45
 try dsimp only at H ⊢
 refine brc H (fun h H => ?_) fun h H => ?_
 ·obtain ⟨⟨h0_30, h1_31⟩, H⟩ := H
  obtain ⟨a28, ha29, hat27⟩ := Row.at (R0.ext hB) h0_30 h1_31
  refine ⟨h0_30, h1_31, a28, ha29, _, (hat27 0 _ rfl), _, (hat27 1 _ rfl), _, (hat27 2 _ rfl), _, (hat27 3 _ rfl), ?_⟩
  obtain ⟨r32, hr33, H⟩ := qad H
  refine (qdJ.con hr33 ).mono ?_
  rintro _ w35 ⟨rfl, e36⟩
  have hB := qa5 hB e36
  refine ⟨r32, rfl, ?_⟩
  refine brc H (fun h H => ?_) fun h H => ?_
  ·cases hr.trans H.symm
   exact ⟨rfl, hB⟩
  obtain ⟨m37, hm38, hJ39⟩ := H
  exact ⟨m37, hm38, _, rfl, hJ39, hB⟩
 cases hr.trans H.symm
 exact ⟨rfl, hB⟩
def qbP.vc (x0 x1 : Int) (w : World) (K : VK) : Prop :=
  Cl 204 #[(iv x0)] w fun v21 w22 => (∃ (b23 : Bool), v21 = (.bool b23) ∧ qa1 (!b23) (K (iv 0) w22) (Cl 204 #[(iv x1)] w22 fun v24 w25 => (∃ (b26 : Bool), v24 = (.bool b26) ∧ qa1 (!b26) (K (iv 0) w25) (Cl 245 #[(iv (wrap .i64 (x0 - x1)))] w25 fun v27 w28 => (∃ (n29 : Int), v27 = (iv n29) ∧ K (iv n29) w28)))))

def qbP.ann : Ann := (.seq .l (.seq (.seq .l (.two (.seq .l .l) .l)) (.seq .l .l)))

theorem qbP.con {x0 x1 r : Int} {w : World} (hr : r = M.qbP x0 x1)  :
    Cl 255 #[(iv x0), (iv x1)] w (fun v_ w_ => v_ = (iv r) ∧ Ext w w_) := by
 have H := wp.qbP.math x0 x1
 refine begK mixed Tryz.f255 ann (vc x0 x1) ?_
 unfold vc
 unfold wp.qbP at H
 obtain ⟨r21, hr22, H⟩ := qad H
 refine (qb4.con hr22 ).mono ?_
 rintro _ w24 ⟨rfl, e25⟩
 have hB := qa5 (Ext.refl w) e25
 refine ⟨r21, rfl, ?_⟩
 refine brc H (fun h H => ?_) fun h H => ?_
 ·cases hr.trans H.symm
  exact ⟨rfl, hB⟩
 obtain ⟨r26, hr27, H⟩ := qad H
 refine (qb4.con hr27 ).mono ?_
 rintro _ w29 ⟨rfl, e30⟩
 have hB := qa5 hB e30
 refine ⟨r26, rfl, ?_⟩
 refine brc H (fun h H => ?_) fun h H => ?_
 ·cases hr.trans H.symm
  exact ⟨rfl, hB⟩
 obtain ⟨r31, hr32, H⟩ := qad H
 refine (qbq.con hr32 ).mono ?_
 rintro _ w34 ⟨rfl, e35⟩
 have hB := qa5 hB e35
 refine ⟨r31, rfl, ?_⟩
 cases hr.trans H.symm
 exact ⟨rfl, hB⟩
def qbN.vc (x0 x1 : Int) (w : World) (K : VK) : Prop :=
  Cl 204 #[(iv x0)] w fun v21 w22 => (∃ (b23 : Bool), v21 = (.bool b23) ∧ qa1 (!b23) (K (iv 0) w22) (Cl 204 #[(iv x1)] w22 fun v24 w25 => (∃ (b26 : Bool), v24 = (.bool b26) ∧ qa1 (!b26) (K (iv 0) w25) (Cl 245 #[(iv (wrap .i64 (x0 * x1)))] w25 fun v27 w28 => (∃ (n29 : Int), v27 = (iv n29) ∧ K (iv n29) w28)))))

def qbN.ann : Ann := (.seq .l (.seq (.seq .l (.two (.seq .l .l) .l)) (.seq .l .l)))

theorem qbN.con {x0 x1 r : Int} {w : World} (hr : r = M.qbN x0 x1)  :
    Cl 256 #[(iv x0), (iv x1)] w (fun v_ w_ => v_ = (iv r) ∧ Ext w w_) := by
 have H := wp.qbN.math x0 x1
 refine begK mixed Tryz.f256 ann (vc x0 x1) ?_
 unfold vc
 unfold wp.qbN at H
 obtain ⟨r21, hr22, H⟩ := qad H
 refine (qb4.con hr22 ).mono ?_
 rintro _ w24 ⟨rfl, e25⟩
 have hB := qa5 (Ext.refl w) e25
 refine ⟨r21, rfl, ?_⟩
 refine brc H (fun h H => ?_) fun h H => ?_
 ·cases hr.trans H.symm
  exact ⟨rfl, hB⟩
 obtain ⟨r26, hr27, H⟩ := qad H
 refine (qb4.con hr27 ).mono ?_
 rintro _ w29 ⟨rfl, e30⟩
 have hB := qa5 hB e30
 refine ⟨r26, rfl, ?_⟩
 refine brc H (fun h H => ?_) fun h H => ?_
 ·cases hr.trans H.symm
  exact ⟨rfl, hB⟩
 obtain ⟨r31, hr32, H⟩ := qad H
 refine (qbq.con hr32 ).mono ?_
 rintro _ w34 ⟨rfl, e35⟩
 have hB := qa5 hB e35
 refine ⟨r31, rfl, ?_⟩
 cases hr.trans H.symm
 exact ⟨rfl, hB⟩
def qbc.vc (x0 x1 : Int) (w : World) (K : VK) : Prop :=
  Cl 204 #[(iv x0)] w fun v21 w22 => (∃ (b23 : Bool), v21 = (.bool b23) ∧ qa1 b23 (Cl 204 #[(iv x1)] w22 fun v24 w25 => (∃ (b26 : Bool), v24 = (.bool b26) ∧ qa1 b26 (qa1 (decide (x0 < x1)) (K (iv 1) w25) (K (iv 0) w25)) (K (iv 0) w25))) (K (iv 0) w22))

def qbc.ann : Ann := (.seq .l (.seq (.seq .l (.two (.seq .l .l) .l)) (.seq .l .l)))

theorem qbc.con {x0 x1 r : Int} {w : World} (hr : r = M.qbc x0 x1)  :
    Cl 257 #[(iv x0), (iv x1)] w (fun v_ w_ => v_ = (iv r) ∧ Ext w w_) := by
 have H := wp.qbc.math x0 x1
 refine begK mixed Tryz.f257 ann (vc x0 x1) ?_
 unfold vc
 unfold wp.qbc at H
 obtain ⟨r21, hr22, H⟩ := qad H
 refine (qb4.con hr22 ).mono ?_
 rintro _ w24 ⟨rfl, e25⟩
 have hB := qa5 (Ext.refl w) e25
 refine ⟨r21, rfl, ?_⟩
 refine brc H (fun h H => ?_) fun h H => ?_
 ·obtain ⟨r26, hr27, H⟩ := qad H
  refine (qb4.con hr27 ).mono ?_
  rintro _ w29 ⟨rfl, e30⟩
  have hB := qa5 hB e30
  refine ⟨r26, rfl, ?_⟩
  refine brc H (fun h H => ?_) fun h H => ?_
  ·refine brc H (fun h H => ?_) fun h H => ?_
   ·cases hr.trans H.symm
    exact ⟨rfl, hB⟩
   cases hr.trans H.symm
   exact ⟨rfl, hB⟩
  cases hr.trans H.symm
  exact ⟨rfl, hB⟩
 cases hr.trans H.symm
 exact ⟨rfl, hB⟩
def qaY.vc (x0_0 x0_1 x0_2 x0_3 x1 : Int) (A2 : OA) (n2 c2 : Nat) (w : World) (K : VK) : Prop :=
  newK w (.cells #[(iv x0_0), (iv x0_1), (iv x0_2), (iv x0_3)] 84) fun g21 w22 => Run Tryz.prog (Instr.buildSlice 24 0 #[]) w22 fun v23 w24 => ∃ (A25 : OA) (n26 c27 : Nat), v23 = .slice A25 n26 c27 ∧ Run Tryz.prog (Builtin.append_ #[24, 24] 24 #[(sv A25 n26 c27), (sv A2 n2 c2)]) w24 fun v28 w29 => ∃ (A30 : OA) (n31 c32 : Nat), v28 = .slice A30 n31 c32 ∧ ldI w29 (((bx g21).add 0).add 0) fun n33 => qa1 (n33 == 1) (ldI w29 (((bx g21).add 1).add 0) fun n34 => ldI w29 (((bx g21).add 2).add 0) fun n35 => (idx n34 n31 A30 fun a36 => qa7 (a36.add ((n34.toNat) * 1)) [(iv n35)] 0 w29 fun w37 => K (sv A30 n31 c32) w37)) (qa1 (n33 == 2) ((∃ M38 : Nat → Prop, ldIM M38 w29 ((bx g21).add 1) 0 fun n39 => ldIM M38 w29 ((bx g21).add 2) 0 fun n40 => (idx n40 n2 A2 fun a41 => ldIM M38 w29 (a41.add ((n40.toNat) * 1)) 0 fun n42 => (idx n39 n31 A30 fun a43 => qa7 (a43.add ((n39.toNat) * 1)) [(iv n42)] 0 w29.drew fun w44 => K (sv A30 n31 c32) w44)))) (qa1 (n33 == 3) ((∃ M45 : Nat → Prop, ldIM M45 w29 ((bx g21).add 1) 0 fun n46 => ldIM M45 w29 ((bx g21).add 2) 0 fun n47 => (idx n47 n2 A2 fun a48 => ldIM M45 w29 (a48.add ((n47.toNat) * 1)) 0 fun n49 => ldIM M45 w29 ((bx g21).add 3) 0 fun n50 => (idx n50 n2 A2 fun a51 => ldIM M45 w29 (a51.add ((n50.toNat) * 1)) 0 fun n52 => Cl 224 #[(iv n49), (iv n52)] w29.drew fun v53 w54 => (∃ (n55 : Int), v53 = (iv n55) ∧ qac M45 w29 w54 ∧ (idx n46 n31 A30 fun a56 => qa7 (a56.add ((n46.toNat) * 1)) [(iv n55)] 0 w54 fun w57 => K (sv A30 n31 c32) w57)))))) (qa1 (n33 == 4) ((∃ M58 : Nat → Prop, ldIM M58 w29 ((bx g21).add 1) 0 fun n59 => ldIM M58 w29 ((bx g21).add 2) 0 fun n60 => (idx n60 n2 A2 fun a61 => ldIM M58 w29 (a61.add ((n60.toNat) * 1)) 0 fun n62 => ldIM M58 w29 ((bx g21).add 3) 0 fun n63 => (idx n63 n2 A2 fun a64 => ldIM M58 w29 (a64.add ((n63.toNat) * 1)) 0 fun n65 => Cl 255 #[(iv n62), (iv n65)] w29.drew fun v66 w67 => (∃ (n68 : Int), v66 = (iv n68) ∧ qac M58 w29 w67 ∧ (idx n59 n31 A30 fun a69 => qa7 (a69.add ((n59.toNat) * 1)) [(iv n68)] 0 w67 fun w70 => K (sv A30 n31 c32) w70)))))) (qa1 (n33 == 5) ((∃ M71 : Nat → Prop, ldIM M71 w29 ((bx g21).add 1) 0 fun n72 => ldIM M71 w29 ((bx g21).add 2) 0 fun n73 => (idx n73 n2 A2 fun a74 => ldIM M71 w29 (a74.add ((n73.toNat) * 1)) 0 fun n75 => ldIM M71 w29 ((bx g21).add 3) 0 fun n76 => (idx n76 n2 A2 fun a77 => ldIM M71 w29 (a77.add ((n76.toNat) * 1)) 0 fun n78 => Cl 256 #[(iv n75), (iv n78)] w29.drew fun v79 w80 => (∃ (n81 : Int), v79 = (iv n81) ∧ qac M71 w29 w80 ∧ (idx n72 n31 A30 fun a82 => qa7 (a82.add ((n72.toNat) * 1)) [(iv n81)] 0 w80 fun w83 => K (sv A30 n31 c32) w83)))))) (qa1 (n33 == 6) ((∃ M84 : Nat → Prop, ldIM M84 w29 ((bx g21).add 1) 0 fun n85 => ldIM M84 w29 ((bx g21).add 2) 0 fun n86 => (idx n86 n2 A2 fun a87 => ldIM M84 w29 (a87.add ((n86.toNat) * 1)) 0 fun n88 => ldIM M84 w29 ((bx g21).add 3) 0 fun n89 => (idx n89 n2 A2 fun a90 => ldIM M84 w29 (a90.add ((n89.toNat) * 1)) 0 fun n91 => (idx n85 n31 A30 fun a92 => qa7 (a92.add ((n85.toNat) * 1)) [(iv (qgK .i64 n88 n91))] 0 w29.drew fun w93 => K (sv A30 n31 c32) w93))))) (qa1 (n33 == 7) ((∃ M94 : Nat → Prop, ldIM M94 w29 ((bx g21).add 1) 0 fun n95 => ldIM M94 w29 ((bx g21).add 2) 0 fun n96 => (idx n96 n2 A2 fun a97 => ldIM M94 w29 (a97.add ((n96.toNat) * 1)) 0 fun n98 => ldIM M94 w29 ((bx g21).add 3) 0 fun n99 => (idx n99 n2 A2 fun a100 => ldIM M94 w29 (a100.add ((n99.toNat) * 1)) 0 fun n101 => Cl 257 #[(iv n98), (iv n101)] w29.drew fun v102 w103 => (∃ (n104 : Int), v102 = (iv n104) ∧ qac M94 w29 w103 ∧ (idx n95 n31 A30 fun a105 => qa7 (a105.add ((n95.toNat) * 1)) [(iv n104)] 0 w103 fun w106 => K (sv A30 n31 c32) w106)))))) (qa1 (n33 == 8) (ldI w29 (((bx g21).add 1).add 0) fun n107 => (idx n107 n31 A30 fun a108 => qa7 (a108.add ((n107.toNat) * 1)) [(iv x1)] 0 w29 fun w109 => K (sv A30 n31 c32) w109)) (qa1 (n33 == 9) (ldI w29 (((bx g21).add 3).add 0) fun n110 => (idx n110 n2 A2 fun a111 => ldI w29 ((a111.add ((n110.toNat) * 1)).add 0) fun n112 => qa1 (n112 != 0) ((∃ M113 : Nat → Prop, ldIM M113 w29 ((bx g21).add 1) 0 fun n114 => ldIM M113 w29 ((bx g21).add 2) 0 fun n115 => (idx n115 n2 A2 fun a116 => ldIM M113 w29 (a116.add ((n115.toNat) * 1)) 0 fun n117 => (idx n114 n31 A30 fun a118 => qa7 (a118.add ((n114.toNat) * 1)) [(iv n117)] 0 w29.drew fun w119 => K (sv A30 n31 c32) w119)))) (K (sv A30 n31 c32) w29))) (K (sv A30 n31 c32) w29)))))))))

def qaY.ann : Ann := (.seq .l (.seq .l (.seq (.seq .l (.one (.seq .l (.two .l (.seq .l (.two .l (.seq .l (.two .l (.seq .l (.two .l (.seq .l (.two .l (.seq .l (.two .l (.seq .l (.two .l (.seq .l (.two .l (.seq .l (.two (.seq .l (.two .l .l)) .l)))))))))))))))))))) (.seq .l .l))))

theorem qaY.con {s0 : D.Ins} {x1 : Int} {xs2 r : List Int} {A2 : OA} {c2 : Nat} {w : World} (hp : M.qg1 s0 x1 xs2) (hr : r = M.qaY s0 x1 xs2) (R2 : Row el3 w A2 xs2) (hc2 : xs2.length ≤ c2) :
    Cl 244 #[(.agg (iC s0)), (iv x1), (sv A2 xs2.length c2)] w (fun v_ w_ => ∃ (A0_ : OA) (c0_ : Nat), v_ = (sv A0_ r.length c0_) ∧ Own el3 w_ w.heap.size A0_ c0_ r ∧ Ext w w_) := by
 have H := wp.qaY.math s0 x1 xs2 hp
 refine begK mixed Tryz.f244 ann (vc s0.Op s0.A s0.B s0.C x1 A2 xs2.length c2) ?_
 unfold vc
 unfold wp.qaY at H
 refine qax (fun g2_ w21 L2 O2 e22 => ?_)
 have hB := qa5 (Ext.refl w) e22
 refine qap el3 ([] : List Int) (fun _ => by kernel_rfl) rfl (fun A23 w24 P3 e25 => ?_)
 have N3_2 := P3.qa8 O2.lt
 have O3 := P3.mono hB.size
 have hB := qa5 hB e25
 obtain ⟨hl30, H⟩ := H
 refine appO qdZ O3 (R2.ext hB) hB.size hl30 (fun A26 c27 w28 P3 e29 => ?_)
 have O2 := (O2.ext e25).app e29 N3_2
 have hB := eapp hB e29 O3
 have O3 := P3
 refine ⟨_, (O2.a 0), ?_⟩
 refine brc H (fun h H => ?_) fun h H => ?_
 ·refine ⟨_, (O2.a 1), _, (O2.a 2), ?_⟩
  obtain ⟨⟨h0_34, h1_35⟩, H⟩ := H
  obtain ⟨a32, ha33, hat31⟩ := Row.at O3.row h0_34 h1_35
  refine ⟨h0_34, h1_35, a32, ha33, ?_⟩
  refine Own.stA O3 ha33 h0_34 h1_35 0 s0.B (fun w36 O3 e37 hb38 => ?_)
  have hB := echg hB e37 hb38
  cases hr.trans H.symm
  exact ⟨A26, c27, (by first | rfl | (simp; done) | (simp; omega) | (simp [*]; done)), (by first | exact O3 | (simp only [bC, wC, List.length_set]; exact O3)), hB⟩
 refine brc H (fun h H => ?_) fun h H => ?_
 ·refine ⟨(fun _ => False), _, noM (O2.a 1), _, noM (O2.a 2), ?_⟩
  obtain ⟨⟨h0_43, h1_44⟩, H⟩ := H
  obtain ⟨a41, ha42, hat40⟩ := Row.at (R2.ext hB) h0_43 h1_44
  refine ⟨h0_43, h1_44, a41, ha42, _, ⟨(fun h_ => h_), (hat40 0 _ rfl)⟩, ?_⟩
  obtain ⟨⟨h0_48, h1_49⟩, H⟩ := H
  obtain ⟨a46, ha47, hat45⟩ := Row.at O3.row h0_48 h1_49
  refine ⟨h0_48, h1_49, a46, ha47, ?_⟩
  have O3 := O3.ext (Ext.drew _)
  have hB := qa5 hB (Ext.drew _)
  refine Own.stA O3 ha47 h0_48 h1_49 0 (rd xs2 s0.B) (fun w50 O3 e51 hb52 => ?_)
  have hB := echg hB e51 hb52
  cases hr.trans H.symm
  exact ⟨A26, c27, (by first | rfl | (simp; done) | (simp; omega) | (simp [*]; done)), (by first | exact O3 | (simp only [bC, wC, List.length_set]; exact O3)), hB⟩
 refine brc H (fun h H => ?_) fun h H => ?_
 ·refine ⟨(fun _ => False), ?_⟩
  have hBz := hB
  have Z3 := O3
  refine ⟨_, noM (O2.a 1), _, noM (O2.a 2), ?_⟩
  obtain ⟨⟨h0_77, h1_78⟩, H⟩ := H
  obtain ⟨a75, ha76, hat74⟩ := Row.at (R2.ext hB) h0_77 h1_78
  refine ⟨h0_77, h1_78, a75, ha76, _, ⟨(fun h_ => h_), (hat74 0 _ rfl)⟩, _, noM (O2.a 3), ?_⟩
  obtain ⟨⟨h0_82, h1_83⟩, H⟩ := H
  obtain ⟨a80, ha81, hat79⟩ := Row.at (R2.ext hB) h0_82 h1_83
  refine ⟨h0_82, h1_83, a80, ha81, _, ⟨(fun h_ => h_), (hat79 0 _ rfl)⟩, ?_⟩
  have O3 := O3.ext (Ext.drew _)
  have hB := qa5 hB (Ext.drew _)
  have hS53 := (Chg.refl (fun _ => False) w28).then (Ext.drew _)
  obtain ⟨r84, hr85, H⟩ := qad H
  refine (qbr.con hr85 ).mono ?_
  rintro _ w87 ⟨rfl, e88⟩
  have O3 := O3.ext e88
  have hB := qa5 hB e88
  have hS53 := hS53.then e88
  refine ⟨r84, rfl, qa2 hS53, ?_⟩
  obtain ⟨⟨h0_92, h1_93⟩, H⟩ := H
  obtain ⟨a90, ha91, hat89⟩ := Row.at Z3.row h0_92 h1_93
  refine ⟨h0_92, h1_93, a90, ha91, ?_⟩
  refine Own.stA O3 ha91 h0_92 h1_93 0 r84 (fun w94 O3 e95 hb96 => ?_)
  have hB := echg hB e95 hb96
  cases hr.trans H.symm
  exact ⟨A26, c27, (by first | rfl | (simp; done) | (simp; omega) | (simp [*]; done)), (by first | exact O3 | (simp only [bC, wC, List.length_set]; exact O3)), hB⟩
 refine brc H (fun h H => ?_) fun h H => ?_
 ·refine ⟨(fun _ => False), ?_⟩
  have hBz := hB
  have Z3 := O3
  refine ⟨_, noM (O2.a 1), _, noM (O2.a 2), ?_⟩
  obtain ⟨⟨h0_121, h1_122⟩, H⟩ := H
  obtain ⟨a119, ha120, hat118⟩ := Row.at (R2.ext hB) h0_121 h1_122
  refine ⟨h0_121, h1_122, a119, ha120, _, ⟨(fun h_ => h_), (hat118 0 _ rfl)⟩, _, noM (O2.a 3), ?_⟩
  obtain ⟨⟨h0_126, h1_127⟩, H⟩ := H
  obtain ⟨a124, ha125, hat123⟩ := Row.at (R2.ext hB) h0_126 h1_127
  refine ⟨h0_126, h1_127, a124, ha125, _, ⟨(fun h_ => h_), (hat123 0 _ rfl)⟩, ?_⟩
  have O3 := O3.ext (Ext.drew _)
  have hB := qa5 hB (Ext.drew _)
  have hS97 := (Chg.refl (fun _ => False) w28).then (Ext.drew _)
  obtain ⟨r128, hr129, H⟩ := qad H
  refine (qbP.con hr129 ).mono ?_
  rintro _ w131 ⟨rfl, e132⟩
  have O3 := O3.ext e132
  have hB := qa5 hB e132
  have hS97 := hS97.then e132
  refine ⟨r128, rfl, qa2 hS97, ?_⟩
  obtain ⟨⟨h0_136, h1_137⟩, H⟩ := H
  obtain ⟨a134, ha135, hat133⟩ := Row.at Z3.row h0_136 h1_137
  refine ⟨h0_136, h1_137, a134, ha135, ?_⟩
  refine Own.stA O3 ha135 h0_136 h1_137 0 r128 (fun w138 O3 e139 hb140 => ?_)
  have hB := echg hB e139 hb140
  cases hr.trans H.symm
  exact ⟨A26, c27, (by first | rfl | (simp; done) | (simp; omega) | (simp [*]; done)), (by first | exact O3 | (simp only [bC, wC, List.length_set]; exact O3)), hB⟩
 refine brc H (fun h H => ?_) fun h H => ?_
 ·refine ⟨(fun _ => False), ?_⟩
  have hBz := hB
  have Z3 := O3
  refine ⟨_, noM (O2.a 1), _, noM (O2.a 2), ?_⟩
  obtain ⟨⟨h0_165, h1_166⟩, H⟩ := H
  obtain ⟨a163, ha164, hat162⟩ := Row.at (R2.ext hB) h0_165 h1_166
  refine ⟨h0_165, h1_166, a163, ha164, _, ⟨(fun h_ => h_), (hat162 0 _ rfl)⟩, _, noM (O2.a 3), ?_⟩
  obtain ⟨⟨h0_170, h1_171⟩, H⟩ := H
  obtain ⟨a168, ha169, hat167⟩ := Row.at (R2.ext hB) h0_170 h1_171
  refine ⟨h0_170, h1_171, a168, ha169, _, ⟨(fun h_ => h_), (hat167 0 _ rfl)⟩, ?_⟩
  have O3 := O3.ext (Ext.drew _)
  have hB := qa5 hB (Ext.drew _)
  have hS141 := (Chg.refl (fun _ => False) w28).then (Ext.drew _)
  obtain ⟨r172, hr173, H⟩ := qad H
  refine (qbN.con hr173 ).mono ?_
  rintro _ w175 ⟨rfl, e176⟩
  have O3 := O3.ext e176
  have hB := qa5 hB e176
  have hS141 := hS141.then e176
  refine ⟨r172, rfl, qa2 hS141, ?_⟩
  obtain ⟨⟨h0_180, h1_181⟩, H⟩ := H
  obtain ⟨a178, ha179, hat177⟩ := Row.at Z3.row h0_180 h1_181
  refine ⟨h0_180, h1_181, a178, ha179, ?_⟩
  refine Own.stA O3 ha179 h0_180 h1_181 0 r172 (fun w182 O3 e183 hb184 => ?_)
  have hB := echg hB e183 hb184
  cases hr.trans H.symm
  exact ⟨A26, c27, (by first | rfl | (simp; done) | (simp; omega) | (simp [*]; done)), (by first | exact O3 | (simp only [bC, wC, List.length_set]; exact O3)), hB⟩
 refine brc H (fun h H => ?_) fun h H => ?_
 ·refine ⟨(fun _ => False), _, noM (O2.a 1), _, noM (O2.a 2), ?_⟩
  obtain ⟨⟨h0_189, h1_190⟩, H⟩ := H
  obtain ⟨a187, ha188, hat186⟩ := Row.at (R2.ext hB) h0_189 h1_190
  refine ⟨h0_189, h1_190, a187, ha188, _, ⟨(fun h_ => h_), (hat186 0 _ rfl)⟩, _, noM (O2.a 3), ?_⟩
  obtain ⟨⟨h0_194, h1_195⟩, H⟩ := H
  obtain ⟨a192, ha193, hat191⟩ := Row.at (R2.ext hB) h0_194 h1_195
  refine ⟨h0_194, h1_195, a192, ha193, _, ⟨(fun h_ => h_), (hat191 0 _ rfl)⟩, ?_⟩
  obtain ⟨⟨h0_199, h1_200⟩, H⟩ := H
  obtain ⟨a197, ha198, hat196⟩ := Row.at O3.row h0_199 h1_200
  refine ⟨h0_199, h1_200, a197, ha198, ?_⟩
  have O3 := O3.ext (Ext.drew _)
  have hB := qa5 hB (Ext.drew _)
  refine Own.stA O3 ha198 h0_199 h1_200 0 (qgK .i64 (rd xs2 s0.B) (rd xs2 s0.C)) (fun w201 O3 e202 hb203 => ?_)
  have hB := echg hB e202 hb203
  cases hr.trans H.symm
  exact ⟨A26, c27, (by first | rfl | (simp; done) | (simp; omega) | (simp [*]; done)), (by first | exact O3 | (simp only [bC, wC, List.length_set]; exact O3)), hB⟩
 refine brc H (fun h H => ?_) fun h H => ?_
 ·refine ⟨(fun _ => False), ?_⟩
  have hBz := hB
  have Z3 := O3
  refine ⟨_, noM (O2.a 1), _, noM (O2.a 2), ?_⟩
  obtain ⟨⟨h0_228, h1_229⟩, H⟩ := H
  obtain ⟨a226, ha227, hat225⟩ := Row.at (R2.ext hB) h0_228 h1_229
  refine ⟨h0_228, h1_229, a226, ha227, _, ⟨(fun h_ => h_), (hat225 0 _ rfl)⟩, _, noM (O2.a 3), ?_⟩
  obtain ⟨⟨h0_233, h1_234⟩, H⟩ := H
  obtain ⟨a231, ha232, hat230⟩ := Row.at (R2.ext hB) h0_233 h1_234
  refine ⟨h0_233, h1_234, a231, ha232, _, ⟨(fun h_ => h_), (hat230 0 _ rfl)⟩, ?_⟩
  have O3 := O3.ext (Ext.drew _)
  have hB := qa5 hB (Ext.drew _)
  have hS204 := (Chg.refl (fun _ => False) w28).then (Ext.drew _)
  obtain ⟨r235, hr236, H⟩ := qad H
  refine (qbc.con hr236 ).mono ?_
  rintro _ w238 ⟨rfl, e239⟩
  have O3 := O3.ext e239
  have hB := qa5 hB e239
  have hS204 := hS204.then e239
  refine ⟨r235, rfl, qa2 hS204, ?_⟩
  obtain ⟨⟨h0_243, h1_244⟩, H⟩ := H
  obtain ⟨a241, ha242, hat240⟩ := Row.at Z3.row h0_243 h1_244
  refine ⟨h0_243, h1_244, a241, ha242, ?_⟩
  refine Own.stA O3 ha242 h0_243 h1_244 0 r235 (fun w245 O3 e246 hb247 => ?_)
  have hB := echg hB e246 hb247
  cases hr.trans H.symm
  exact ⟨A26, c27, (by first | rfl | (simp; done) | (simp; omega) | (simp [*]; done)), (by first | exact O3 | (simp only [bC, wC, List.length_set]; exact O3)), hB⟩
 refine brc H (fun h H => ?_) fun h H => ?_
 ·refine ⟨_, (O2.a 1), ?_⟩
  obtain ⟨⟨h0_251, h1_252⟩, H⟩ := H
  obtain ⟨a249, ha250, hat248⟩ := Row.at O3.row h0_251 h1_252
  refine ⟨h0_251, h1_252, a249, ha250, ?_⟩
  refine Own.stA O3 ha250 h0_251 h1_252 0 x1 (fun w253 O3 e254 hb255 => ?_)
  have hB := echg hB e254 hb255
  cases hr.trans H.symm
  exact ⟨A26, c27, (by first | rfl | (simp; done) | (simp; omega) | (simp [*]; done)), (by first | exact O3 | (simp only [bC, wC, List.length_set]; exact O3)), hB⟩
 refine brc H (fun h H => ?_) fun h H => ?_
 ·refine ⟨_, (O2.a 3), ?_⟩
  obtain ⟨⟨h0_259, h1_260⟩, H⟩ := H
  obtain ⟨a257, ha258, hat256⟩ := Row.at (R2.ext hB) h0_259 h1_260
  refine ⟨h0_259, h1_260, a257, ha258, _, (hat256 0 _ rfl), ?_⟩
  refine brc H (fun h H => ?_) fun h H => ?_
  ·refine ⟨(fun _ => False), _, noM (O2.a 1), _, noM (O2.a 2), ?_⟩
   obtain ⟨⟨h0_265, h1_266⟩, H⟩ := H
   obtain ⟨a263, ha264, hat262⟩ := Row.at (R2.ext hB) h0_265 h1_266
   refine ⟨h0_265, h1_266, a263, ha264, _, ⟨(fun h_ => h_), (hat262 0 _ rfl)⟩, ?_⟩
   obtain ⟨⟨h0_270, h1_271⟩, H⟩ := H
   obtain ⟨a268, ha269, hat267⟩ := Row.at O3.row h0_270 h1_271
   refine ⟨h0_270, h1_271, a268, ha269, ?_⟩
   have O3 := O3.ext (Ext.drew _)
   have hB := qa5 hB (Ext.drew _)
   refine Own.stA O3 ha269 h0_270 h1_271 0 (rd xs2 s0.B) (fun w272 O3 e273 hb274 => ?_)
   have hB := echg hB e273 hb274
   cases hr.trans H.symm
   exact ⟨A26, c27, (by first | rfl | (simp; done) | (simp; omega) | (simp [*]; done)), (by first | exact O3 | (simp only [bC, wC, List.length_set]; exact O3)), hB⟩
  cases hr.trans H.symm
  exact ⟨A26, c27, rfl, O3, hB⟩
 cases hr.trans H.symm
 exact ⟨A26, c27, rfl, O3, hB⟩
def qao.vc (A0 : OA) (n0 c0 : Nat) (w : World) (K : VK) : Prop :=
  qa1 (Option.isNone A0) (K (sv none 0 0) w) (Run Tryz.prog (Instr.buildSlice 24 0 #[]) w fun v21 w22 => ∃ (A23 : OA) (n24 c25 : Nat), v21 = .slice A23 n24 c25 ∧ Run Tryz.prog (Builtin.append_ #[24, 24] 24 #[(sv A23 n24 c25), (sv A0 n0 c0)]) w22 fun v26 w27 => ∃ (A28 : OA) (n29 c30 : Nat), v26 = .slice A28 n29 c30 ∧ K (sv A28 n29 c30) w27)

def qao.ann : Ann := (.seq .l (.seq (.seq .l (.two (.seq .l .l) .l)) (.seq .l .l)))

theorem qao.con {xs0 r : List Int} {A0 : OA} {c0 : Nat} {w : World} (hp : M.qaP xs0) (hr : r = M.qao xs0) (R0 : Row el3 w A0 xs0) (hc0 : xs0.length ≤ c0) :
    Cl 128 #[(sv A0 xs0.length c0)] w (fun v_ w_ => ∃ (A0_ : OA) (c0_ : Nat), v_ = (sv A0_ r.length c0_) ∧ Own el3 w_ w.heap.size A0_ c0_ r ∧ Ext w w_) := by
 have H := wp.qao.math xs0 hp
 have hB := Ext.refl w
 refine begK mixed Tryz.f128 ann (vc A0 xs0.length c0) ?_
 unfold vc
 unfold wp.qao at H
 obtain ⟨b21, hb22⟩ : ∃ b_, b_ = Option.isNone A0 := ⟨_, rfl⟩
 have H := H b21 (fun h_ => Row.isNone (R0.ext hB) (hb22.symm.trans h_))
 rw [← hb22]
 refine brc H (fun h H => ?_) fun h H => ?_
 ·cases hr.trans H.symm
  exact ⟨none, 0, rfl, Own.nil, hB⟩
 refine qap el3 ([] : List Int) (fun _ => by kernel_rfl) rfl (fun A23 w24 P2 e25 => ?_)
 have O2 := P2.mono hB.size
 have hB := qa5 hB e25
 obtain ⟨hl30, H⟩ := H
 refine appO qdZ O2 (R0.ext hB) hB.size hl30 (fun A26 c27 w28 P2 e29 => ?_)
 have hB := eapp hB e29 O2
 have O2 := P2
 cases hr.trans H.symm
 exact ⟨A26, c27, rfl, O2, hB⟩
def qdB.vc (x0 : Int) (w : World) (K : VK) : Prop :=
  Cl 78 #[(iv x0), (iv 0), (iv 16)] w fun v21 w22 => (∃ (b23 : Bool), v21 = (.bool b23) ∧ qa1 (!b23) (K (.string (⟨#[]⟩)) w22) (Run Tryz.prog (Instr.buildSlice 187 17 #[(0, (.string (⟨#[45, 45, 45]⟩))), (1, (.string (⟨#[82, 87, 45]⟩))), (2, (.string (⟨#[82, 82, 45]⟩))), (3, (.string (⟨#[82, 82, 82]⟩))), (4, (.string (⟨#[82, 82, 82]⟩))), (5, (.string (⟨#[82, 82, 82]⟩))), (6, (.string (⟨#[82, 82, 82]⟩))), (7, (.string (⟨#[82, 82, 82]⟩))), (8, (.string (⟨#[82, 45, 45]⟩))), (9, (.string (⟨#[82, 82, 82]⟩))), (10, (.string (⟨#[82, 84, 45]⟩))), (11, (.string (⟨#[45, 84, 45]⟩))), (12, (.string (⟨#[45, 45, 45]⟩))), (13, (.string (⟨#[82, 82, 45]⟩))), (14, (.string (⟨#[82, 82, 45]⟩))), (15, (.string (⟨#[82, 82, 45]⟩))), (16, (.string (⟨#[45, 45, 45]⟩)))]) w22 fun v24 w25 => ∃ (A26 : OA) (n27 c28 : Nat), v24 = .slice A26 n27 c28 ∧ (idx x0 n27 A26 fun a29 => ∃ (s30 : ByteArray), w25.cell? ((a29.add ((x0.toNat) * 1)).add 0) = some (.string s30) ∧ K (.string s30) w25)))

def qdB.ann : Ann := (.seq .l (.seq (.seq .l (.two (.seq .l .l) .l)) (.seq .l .l)))

theorem qdB.con {x0 : Int} {r : ByteArray} {w : World} (hr : r = M.qdB x0)  :
    Cl 175 #[(iv x0)] w (fun v_ w_ => v_ = (.string r) ∧ Ext w w_) := by
 have H := wp.qdB.math x0
 refine begK mixed Tryz.f175 ann (vc x0) ?_
 unfold vc
 unfold wp.qdB at H
 obtain ⟨r21, hr22, H⟩ := qad H
 refine (qar.con hr22 ).mono ?_
 rintro _ w24 ⟨rfl, e25⟩
 have hB := qa5 (Ext.refl w) e25
 refine ⟨r21, rfl, ?_⟩
 refine brc H (fun h H => ?_) fun h H => ?_
 ·cases hr.trans H.symm
  exact ⟨rfl, hB⟩
 refine qap el9 ([⟨#[45, 45, 45]⟩, ⟨#[82, 87, 45]⟩, ⟨#[82, 82, 45]⟩, ⟨#[82, 82, 82]⟩, ⟨#[82, 82, 82]⟩, ⟨#[82, 82, 82]⟩, ⟨#[82, 82, 82]⟩, ⟨#[82, 82, 82]⟩, ⟨#[82, 45, 45]⟩, ⟨#[82, 82, 82]⟩, ⟨#[82, 84, 45]⟩, ⟨#[45, 84, 45]⟩, ⟨#[45, 45, 45]⟩, ⟨#[82, 82, 45]⟩, ⟨#[82, 82, 45]⟩, ⟨#[82, 82, 45]⟩, ⟨#[45, 45, 45]⟩] : List ByteArray) (fun _ => by kernel_rfl) rfl (fun A26 w27 P1 e28 => ?_)
 have O1 := P1.mono hB.size
 have hB := qa5 hB e28
 obtain ⟨⟨h0_32, h1_33⟩, H⟩ := H
 obtain ⟨a30, ha31, hat29⟩ := Row.at O1.row h0_32 h1_33
 refine ⟨h0_32, (by first | exact h1_33 | omega | (simp at h1_33 ⊢; omega)), a30, ha31, _, (hat29 0 _ rfl), ?_⟩
 cases hr.trans H.symm
 exact ⟨rfl, hB⟩
def qe0.vc (x0 : Int) (w : World) (K : VK) : Prop :=
  Cl 78 #[(iv x0), (iv 0), (iv 3)] w fun v21 w22 => (∃ (b23 : Bool), v21 = (.bool b23) ∧ K (.bool b23) w22)

def qe0.ann : Ann := (.seq .l (.seq .l .l))

theorem qe0.con {x0 : Int} {r : Bool} {w : World} (hr : r = M.qe0 x0)  :
    Cl 208 #[(iv x0)] w (fun v_ w_ => v_ = (.bool r) ∧ Ext w w_) := by
 have H := wp.qe0.math x0
 refine begK mixed Tryz.f208 ann (vc x0) ?_
 unfold vc
 unfold wp.qe0 at H
 obtain ⟨r21, hr22, H⟩ := qad H
 refine (qar.con hr22 ).mono ?_
 rintro _ w24 ⟨rfl, e25⟩
 have hB := qa5 (Ext.refl w) e25
 refine ⟨r21, rfl, ?_⟩
 cases hr.trans H.symm
 exact ⟨rfl, hB⟩
def qaD.vc (x0 x1 x2 : Int) (w : World) (K : VK) : Prop :=
  qa1 (x0 == 82) (Cl 208 #[(iv x1)] w fun v21 w22 => (∃ (b23 : Bool), v21 = (.bool b23) ∧ K (.bool b23) w22)) (qa1 (x0 == 87) (Cl 178 #[(iv x1)] w fun v24 w25 => (∃ (b26 : Bool), v24 = (.bool b26) ∧ K (.bool b26) w25)) (qa1 (x0 == 84) (Cl 78 #[(iv x1), (iv 0), (iv x2)] w fun v27 w28 => (∃ (b29 : Bool), v27 = (.bool b29) ∧ K (.bool b29) w28)) (K (.bool (x1 == 0)) w)))

def qaD.ann : Ann := (.seq .l (.seq (.seq .l (.one (.seq .l (.two (.seq .l .l) (.seq .l (.two (.seq .l .l) (.seq .l (.two (.seq .l .l) .l)))))))) (.seq .l .l)))

theorem qaD.con {x0 x1 x2 : Int} {r : Bool} {w : World} (hp : M.qdu x0 x1 x2) (hr : r = M.qaD x0 x1 x2)  :
    Cl 176 #[(.int .u8 x0), (iv x1), (iv x2)] w (fun v_ w_ => v_ = (.bool r) ∧ Ext w w_) := by
 have H := wp.qaD.math x0 x1 x2 hp
 have hB := Ext.refl w
 refine begK mixed Tryz.f176 ann (vc x0 x1 x2) ?_
 unfold vc
 unfold wp.qaD at H
 refine brc H (fun h H => ?_) fun h H => ?_
 ·obtain ⟨r21, hr22, H⟩ := qad H
  refine (qe0.con hr22 ).mono ?_
  rintro _ w24 ⟨rfl, e25⟩
  have hB := qa5 hB e25
  refine ⟨r21, rfl, ?_⟩
  cases hr.trans H.symm
  exact ⟨rfl, hB⟩
 refine brc H (fun h H => ?_) fun h H => ?_
 ·obtain ⟨r26, hr27, H⟩ := qad H
  refine (qbD.con hr27 ).mono ?_
  rintro _ w29 ⟨rfl, e30⟩
  have hB := qa5 hB e30
  refine ⟨r26, rfl, ?_⟩
  cases hr.trans H.symm
  exact ⟨rfl, hB⟩
 refine brc H (fun h H => ?_) fun h H => ?_
 ·obtain ⟨r31, hr32, H⟩ := qad H
  refine (qar.con hr32 ).mono ?_
  rintro _ w34 ⟨rfl, e35⟩
  have hB := qa5 hB e35
  refine ⟨r31, rfl, ?_⟩
  cases hr.trans H.symm
  exact ⟨rfl, hB⟩
 cases hr.trans H.symm
 exact ⟨rfl, hB⟩
def qb0.vc (x0_0 x0_1 x0_2 x0_3 x1 : Int) (w : World) (K : VK) : Prop :=
  newK w (.cells #[(iv x0_0), (iv x0_1), (iv x0_2), (iv x0_3)] 84) fun g21 w22 => ldI w22 (((bx g21).add 0).add 0) fun n23 => Cl 175 #[(iv n23)] w22 fun v24 w25 => (∃ (s26 : ByteArray), v24 = (.string s26) ∧ qa1 (!(ByteArray.toList s26 == ByteArray.toList (⟨#[]⟩))) (((Cl 78 #[(iv x1), (iv 0), (iv 32)] w25.drew fun v27 w28 => (∃ (b29 : Bool), v27 = (.bool b29) ∧ qa1 b29 (((0 : Int) ≤ 0 ∧ ∃ y30 : UInt8, (s26 : ByteArray)[((0 : Int).toNat)]? = some y30 ∧ ((ldI w28 (((bx g21).add 1).add 0) fun n31 => ((Cl 176 #[(.int .u8 ((y30.toNat : Nat) : Int)), (iv n31), (iv x1)] w28 fun v32 w33 => (∃ (b34 : Bool), v32 = (.bool b34) ∧ qa1 b34 (((0 : Int) ≤ 1 ∧ ∃ y35 : UInt8, (s26 : ByteArray)[((1 : Int).toNat)]? = some y35 ∧ ((ldI w33 (((bx g21).add 2).add 0) fun n36 => ((Cl 176 #[(.int .u8 ((y35.toNat : Nat) : Int)), (iv n36), (iv x1)] w33 fun v37 w38 => (∃ (b39 : Bool), v37 = (.bool b39) ∧ qa1 b39 (((0 : Int) ≤ 2 ∧ ∃ y40 : UInt8, (s26 : ByteArray)[((2 : Int).toNat)]? = some y40 ∧ ((ldI w38 (((bx g21).add 3).add 0) fun n41 => ((Cl 176 #[(.int .u8 ((y40.toNat : Nat) : Int)), (iv n41), (iv x1)] w38 fun v42 w43 => (∃ (b44 : Bool), v42 = (.bool b44) ∧ K (.bool b44) w43)) ∧ True)) ∧ True))) (((((K (.bool false) w38) ∧ True)) ∧ True)))) ∧ True)) ∧ True))) (((((((((K (.bool false) w33) ∧ True)) ∧ True)) ∧ True)) ∧ True)))) ∧ True)) ∧ True))) (((((((((((((K (.bool false) w28) ∧ True)) ∧ True)) ∧ True)) ∧ True)) ∧ True)) ∧ True)))) ∧ True)) (((((((((((((((K (.bool false) w25.drew) ∧ True)) ∧ True)) ∧ True)) ∧ True)) ∧ True)) ∧ True)) ∧ True)))

def qb0.ann : Ann := (.seq .l (.seq .l (.seq .each .l)))

theorem qb0.con {s0 : D.Ins} {x1 : Int} {r : Bool} {w : World} (hr : r = M.qb0 s0 x1)  :
    Cl 135 #[(.agg (iC s0)), (iv x1)] w (fun v_ w_ => v_ = (.bool r) ∧ Ext w w_) := by
 have H := wp.qb0.math s0 x1
 refine begK mixed Tryz.f135 ann (vc s0.Op s0.A s0.B s0.C x1) ?_
 unfold vc
 unfold wp.qb0 at H
 refine qax (fun g1_ w21 L1 O1 e22 => ?_)
 refine ⟨_, (O1.a 0), ?_⟩
 obtain ⟨r23, hr24, H⟩ := qad H
 refine (qdB.con hr24 ).mono ?_
 rintro _ w26 ⟨rfl, e27⟩
 refine ⟨r23, rfl, ?_⟩
 have O1 := (O1.ext e27).ext (Ext.drew _)
 have hB := qa5 (qa5 (qa5 (Ext.refl w) e22) e27) (Ext.drew _)
 refine brc H (fun h H => ?_) fun h H => ?_
 ·refine qd2 ?_
  obtain ⟨r28, hr29, H⟩ := qad H
  refine (qar.con hr29 ).mono ?_
  rintro _ w31 ⟨rfl, e32⟩
  have O1 := O1.ext e32
  have hB := qa5 hB e32
  refine ⟨r28, rfl, ?_⟩
  refine brc H (fun h H => ?_) fun h H => ?_
  ·obtain ⟨⟨h0_36, h1_37⟩, H⟩ := H
   obtain ⟨y33, hy34, hyb35⟩ := qnL h0_36 h1_37
   refine ⟨h0_36, y33, hy34, ?_⟩
   rw [hyb35]
   refine qd2 ?_
   refine ⟨_, (O1.a 1), ?_⟩
   refine qd2 ?_
   obtain ⟨hp40, H⟩ := H
   obtain ⟨r38, hr39, H⟩ := qad H
   refine (qaD.con hp40 hr39 ).mono ?_
   rintro _ w41 ⟨rfl, e42⟩
   have O1 := O1.ext e42
   have hB := qa5 hB e42
   refine ⟨r38, rfl, ?_⟩
   refine brc H (fun h H => ?_) fun h H => ?_
   ·obtain ⟨⟨h0_46, h1_47⟩, H⟩ := H
    obtain ⟨y43, hy44, hyb45⟩ := qnL h0_46 h1_47
    refine ⟨h0_46, y43, hy44, ?_⟩
    rw [hyb45]
    refine qd2 ?_
    refine ⟨_, (O1.a 2), ?_⟩
    refine qd2 ?_
    obtain ⟨hp50, H⟩ := H
    obtain ⟨r48, hr49, H⟩ := qad H
    refine (qaD.con hp50 hr49 ).mono ?_
    rintro _ w51 ⟨rfl, e52⟩
    have O1 := O1.ext e52
    have hB := qa5 hB e52
    refine ⟨r48, rfl, ?_⟩
    refine brc H (fun h H => ?_) fun h H => ?_
    ·obtain ⟨⟨h0_56, h1_57⟩, H⟩ := H
     obtain ⟨y53, hy54, hyb55⟩ := qnL h0_56 h1_57
     refine ⟨h0_56, y53, hy54, ?_⟩
     rw [hyb55]
     refine qd2 ?_
     refine ⟨_, (O1.a 3), ?_⟩
     refine qd2 ?_
     obtain ⟨hp60, H⟩ := H
     obtain ⟨r58, hr59, H⟩ := qad H
     refine (qaD.con hp60 hr59 ).mono ?_
     rintro _ w61 ⟨rfl, e62⟩
     have hB := qa5 hB e62
     refine ⟨r58, rfl, ?_⟩
     cases hr.trans H.symm
     exact ⟨rfl, hB⟩
    refine qd2 ?_
    refine qd2 ?_
    cases hr.trans H.symm
    exact ⟨rfl, hB⟩
   refine qd2 ?_
   refine qd2 ?_
   refine qd2 ?_
   refine qd2 ?_
   cases hr.trans H.symm
   exact ⟨rfl, hB⟩
  refine qd2 ?_
  refine qd2 ?_
  refine qd2 ?_
  refine qd2 ?_
  refine qd2 ?_
  refine qd2 ?_
  cases hr.trans H.symm
  exact ⟨rfl, hB⟩
 refine qd2 ?_
 refine qd2 ?_
 refine qd2 ?_
 refine qd2 ?_
 refine qd2 ?_
 refine qd2 ?_
 refine qd2 ?_
 cases hr.trans H.symm
 exact ⟨rfl, hB⟩
def qbz.vc (x0_0 x0_1 x0_2 x0_3 : Int) (p1 : Addr) (w : World) (K : VK) : Prop :=
  newK w (.cells #[(iv x0_0), (iv x0_1), (iv x0_2), (iv x0_3)] 84) fun g21 w22 => ldI w22 ((bx g21).add 0) fun n23 => ldI w22 ((bx g21).add 1) fun n24 => ldI w22 ((bx g21).add 2) fun n25 => ldI w22 ((bx g21).add 3) fun n26 => ldS w22 (p1.add 0) fun A27 n28 c29 => Cl 135 #[(.agg #[(iv n23), (iv n24), (iv n25), (iv n26)]), (iv ((n28 : Nat) : Int))] w22 fun v30 w31 => (∃ (b32 : Bool), v30 = (.bool b32) ∧ K (.bool (!b32)) w31)

def qbz.ann : Ann := (.seq .l (.seq .l .l))

theorem qbz.con {s0 : D.Ins} {xs1 : List D.Ins} {g1_ c1_0 : Nat} {A1_0 : OA} {r : Bool} {w : World} (hr : r = M.qbz s0 xs1) (O1 : Blk w g1_ 30 #[(sv A1_0 xs1.length c1_0)]) (R1_0 : Row el84 w A1_0 xs1) (hc1_0 : xs1.length ≤ c1_0) :
    Cl 134 #[(.agg (iC s0)), (.pointer (some (bx g1_)))] w (fun v_ w_ => v_ = (.bool r) ∧ Ext w w_) := by
 have H := wp.qbz.math s0 xs1
 refine begK mixed Tryz.f134 ann (vc s0.Op s0.A s0.B s0.C (bx g1_)) ?_
 unfold vc
 unfold wp.qbz at H
 refine qax (fun g3_ w21 L3 O3 e22 => ?_)
 have O1 := O1.ext e22
 refine ⟨_, (O3.a 0), _, (O3.a 1), _, (O3.a 2), _, (O3.a 3), _, _, _, (O1.a 0), ?_⟩
 obtain ⟨r23, hr24, H⟩ := qad H
 refine (qb0.con hr24 ).mono ?_
 rintro _ w26 ⟨rfl, e27⟩
 have hB := qa5 (qa5 (Ext.refl w) e22) e27
 refine ⟨r23, rfl, ?_⟩
 cases hr.trans H.symm
 exact ⟨rfl, hB⟩
def qae.vc (A0 : OA) (n0 c0 f1 : Nat) (cap1 : Array Value) (w : World) (K : VK) : Prop :=
  qdA (σ := Int × Unit) (fun z21 w22 next23 => qa1 (decide (z21.1 < ((n0 : Nat) : Int))) ((idx z21.1 n0 A0 fun a24 => ldI w22 ((a24.add ((z21.1.toNat) * 4)).add 0) fun n25 => ldI w22 ((a24.add ((z21.1.toNat) * 4)).add 1) fun n26 => ldI w22 ((a24.add ((z21.1.toNat) * 4)).add 2) fun n27 => ldI w22 ((a24.add ((z21.1.toNat) * 4)).add 3) fun n28 => Cl f1 (#[(.agg #[(iv n25), (iv n26), (iv n27), (iv n28)])] ++ cap1) w22 fun v29 w30 => (∃ (b31 : Bool), v29 = (.bool b31) ∧ qa1 b31 (K (iv z21.1) w30) (next23 ((wrap .i64 (z21.1 + 1)), ()) w30)))) (K (iv (-1)) w22)) (0, ()) w

def qae.ann : Ann := (.seq .l (.seq (.seq .l (.one (.loop [(8, .int .i64)] (.seq .l (.seq (.two .l .l) (.seq (.one (.seq .l (.seq .l (.two (.seq .l .l) .l)))) .l)))))) (.seq .l .l)))

theorem qae.start {A0 : OA} {n0 c0 f1 : Nat} {cap1 : Array Value} {w : World} {K : Value → World → Prop} (h : qae.vc A0 n0 c0 f1 cap1 w K) : Cl 174 #[(sv A0 n0 c0), (.func (.func f1) #[] cap1)] w K :=
  qex mixed (fn := Tryz.f174) (by kernel_rfl) (by kernel_rfl) (an := qae.ann) (args := [(sv A0 n0 c0), (.func (.func f1) #[] cap1)]) (Eq.mpr (by kernel_rfl) h)

theorem qae.con {xs0 : List D.Ins} {A0 : OA} {c0 f1 : Nat} {cap1 : Array Value} {g1 : D.Ins → Bool} {D1 : D.Ins → Prop} {r : Int} {w : World} (hp : M.qcX xs0 g1 D1) (hr : r = M.qae xs0 g1) (R0 : Row el84 w A0 xs0) (hc0 : xs0.length ≤ c0) (F1 : ∀ (z0_ : D.Ins), D1 z0_ → ∀ w_ : World, Ext w w_ → Cl f1 (#[(.agg (iC z0_))] ++ cap1) w_ (fun v_ w1_ => v_ = (.bool (g1 z0_)) ∧ Ext w_ w1_)) :
    Cl 174 #[(sv A0 xs0.length c0), (.func (.func f1) #[] cap1)] w (fun v_ w_ => v_ = (iv r) ∧ Ext w w_) := by
 have H := wp.qae.math xs0 g1 D1 hp
 have hB := Ext.refl w
 refine qae.start ?_
 unfold vc
 unfold wp.qae at H
 obtain ⟨J23, ⟨m44, hJ43⟩, hS24⟩ := H
 refine ⟨fun m_ z_ w_ => ∃ (i21 : Int), z_ = (i21, ()) ∧ J23 m_ (i21, ()) ∧ Ext w w_, ⟨m44, 0, rfl, hJ43, hB⟩, ?_⟩
 rintro m22 _ w26 ⟨i21, rfl, hJ45, hB⟩
 have H := hS24 m22 _ hJ45
 clear hS24 hJ45
 try dsimp only at H ⊢
 refine brc H (fun h H => ?_) fun h H => ?_
 ·obtain ⟨⟨h0_30, h1_31⟩, H⟩ := H
  obtain ⟨a28, ha29, hat27⟩ := Row.at (R0.ext hB) h0_30 h1_31
  refine ⟨h0_30, h1_31, a28, ha29, _, (hat27 0 _ rfl), _, (hat27 1 _ rfl), _, (hat27 2 _ rfl), _, (hat27 3 _ rfl), ?_⟩
  obtain ⟨hd34, H⟩ := H
  obtain ⟨r32, hr33, H⟩ := qad H
  refine (F1 (rd xs0 i21) hd34 _ hB).mono ?_
  rintro _ w35 ⟨rfl, e36⟩
  rw [← hr33]
  have hB := qa5 hB e36
  refine ⟨r32, rfl, ?_⟩
  refine brc H (fun h H => ?_) fun h H => ?_
  ·cases hr.trans H.symm
   exact ⟨rfl, hB⟩
  obtain ⟨m37, hm38, hJ39⟩ := H
  exact ⟨m37, hm38, _, rfl, hJ39, hB⟩
 cases hr.trans H.symm
 exact ⟨rfl, hB⟩
def qaf.vc (A0 : OA) (n0 c0 f1 : Nat) (cap1 : Array Value) (w : World) (K : VK) : Prop :=
  Cl 174 #[(sv A0 n0 c0), (.func (.func f1) #[] cap1)] w fun v21 w22 => (∃ (n23 : Int), v21 = (iv n23) ∧ K (.bool (decide (n23 ≥ 0))) w22)

def qaf.ann : Ann := (.seq .l (.seq .l .l))

theorem qaf.start {A0 : OA} {n0 c0 f1 : Nat} {cap1 : Array Value} {w : World} {K : Value → World → Prop} (h : qaf.vc A0 n0 c0 f1 cap1 w K) : Cl 133 #[(sv A0 n0 c0), (.func (.func f1) #[] cap1)] w K :=
  qex mixed (fn := Tryz.f133) (by kernel_rfl) (by kernel_rfl) (an := qaf.ann) (args := [(sv A0 n0 c0), (.func (.func f1) #[] cap1)]) (Eq.mpr (by kernel_rfl) h)

theorem qaf.con {xs0 : List D.Ins} {A0 : OA} {c0 f1 : Nat} {cap1 : Array Value} {g1 : D.Ins → Bool} {D1 : D.Ins → Prop} {r : Bool} {w : World} (hp : M.qcD xs0 g1 D1) (hr : r = M.qaf xs0 g1) (R0 : Row el84 w A0 xs0) (hc0 : xs0.length ≤ c0) (F1 : ∀ (z0_ : D.Ins), D1 z0_ → ∀ w_ : World, Ext w w_ → Cl f1 (#[(.agg (iC z0_))] ++ cap1) w_ (fun v_ w1_ => v_ = (.bool (g1 z0_)) ∧ Ext w_ w1_)) :
    Cl 133 #[(sv A0 xs0.length c0), (.func (.func f1) #[] cap1)] w (fun v_ w_ => v_ = (.bool r) ∧ Ext w w_) := by
 have H := wp.qaf.math xs0 g1 D1 hp
 have hB := Ext.refl w
 refine qaf.start ?_
 unfold vc
 unfold wp.qaf at H
 obtain ⟨hp23, H⟩ := H
 obtain ⟨r21, hr22, H⟩ := qad H
 refine (qae.con hp23 hr22 (R0.ext hB) hc0 (fun z0_  h_ w_ e_ => F1 z0_  h_ w_ (qa5 hB e_))).mono ?_
 rintro _ w24 ⟨rfl, e25⟩
 have hB := qa5 hB e25
 refine ⟨r21, rfl, ?_⟩
 cases hr.trans H.symm
 exact ⟨rfl, hB⟩
def qbe.vc (A0 : OA) (n0 c0 : Nat) (w : World) (K : VK) : Prop :=
  newK w (.cells #[(sv A0 n0 c0)] 30) fun g21 w22 => ldS w22 ((bx g21).add 0) fun A23 n24 c25 => qa1 (decide (((n24 : Nat) : Int) ≤ 32)) (ldS w22 ((bx g21).add 0) fun A26 n27 c28 => Cl 133 #[(sv A26 n27 c28), (.func (.func 134) #[] #[(.pointer (some (bx g21)))])] w22 fun v29 w30 => (∃ (b31 : Bool), v29 = (.bool b31) ∧ K (.bool (!b31)) w30)) (K (.bool false) w22)

def qbe.ann : Ann := (.seq .l (.seq .l .l))

theorem qbe.con {xs0 : List D.Ins} {A0 : OA} {c0 : Nat} {r : Bool} {w : World} (hp : M.qee xs0) (hr : r = M.qbe xs0) (R0 : Row el84 w A0 xs0) (hc0 : xs0.length ≤ c0) :
    Cl 75 #[(sv A0 xs0.length c0)] w (fun v_ w_ => v_ = (.bool r) ∧ Ext w w_) := by
 have H := wp.qbe.math xs0 hp
 refine begK mixed Tryz.f75 ann (vc A0 xs0.length c0) ?_
 unfold vc
 unfold wp.qbe at H
 refine qax (fun g2_ w21 L2 O2 e22 => ?_)
 have hB := qa5 (Ext.refl w) e22
 refine ⟨_, _, _, (O2.a 0), ?_⟩
 refine brc H (fun h H => ?_) fun h H => ?_
 ·refine ⟨_, _, _, (O2.a 0), ?_⟩
  obtain ⟨hp25, H⟩ := H
  obtain ⟨r23, hr24, H⟩ := qad H
  refine (qaf.con hp25 hr24 (R0.ext hB) hc0 (fun z0_ h_ w_ e_ => qjj (l1 := [_]) (l2 := [_]) (qbz.con rfl (O2.ext e_) (R0.ext (qa5 hB e_)) hc0))).mono ?_
  rintro _ w26 ⟨rfl, e27⟩
  have hB := qa5 hB e27
  refine ⟨r23, rfl, ?_⟩
  cases hr.trans H.symm
  exact ⟨rfl, hB⟩
 cases hr.trans H.symm
 exact ⟨rfl, hB⟩
def qcz.vc (x0_0 x0_1 x0_2 x0_3 : Int) (w : World) (K : VK) : Prop :=
  newK w (.cells #[(iv x0_0), (iv x0_1), (iv x0_2), (iv x0_3)] 84) fun g21 w22 => ldI w22 (((bx g21).add 0).add 0) fun n23 => Cl 78 #[(iv n23), (iv 0), (iv 12)] w22 fun v24 w25 => (∃ (b26 : Bool), v24 = (.bool b26) ∧ K (.bool b26) w25)

def qcz.ann : Ann := (.seq .l (.seq .l .l))

theorem qcz.con {s0 : D.Ins} {r : Bool} {w : World} (hr : r = M.qcz s0)  :
    Cl 121 #[(.agg (iC s0))] w (fun v_ w_ => v_ = (.bool r) ∧ Ext w w_) := by
 have H := wp.qcz.math s0
 refine begK mixed Tryz.f121 ann (vc s0.Op s0.A s0.B s0.C) ?_
 unfold vc
 unfold wp.qcz at H
 refine qax (fun g1_ w21 L1 O1 e22 => ?_)
 refine ⟨_, (O1.a 0), ?_⟩
 obtain ⟨r23, hr24, H⟩ := qad H
 refine (qar.con hr24 ).mono ?_
 rintro _ w26 ⟨rfl, e27⟩
 have hB := qa5 (qa5 (Ext.refl w) e22) e27
 refine ⟨r23, rfl, ?_⟩
 cases hr.trans H.symm
 exact ⟨rfl, hB⟩
def qcq.vc (x0 x1 : Int) (w : World) (K : VK) : Prop :=
  Cl 207 #[(iv x0), (iv x1), (iv (wrap .i64 (x0 - x1)))] w fun v21 w22 => (∃ (n23 : Int), v21 = (iv n23) ∧ K (iv n23) w22)

def qcq.ann : Ann := (.seq .l (.seq .l .l))

theorem qcq.con {x0 x1 r : Int} {w : World} (hr : r = M.qcq x0 x1)  :
    Cl 225 #[(iv x0), (iv x1)] w (fun v_ w_ => v_ = (iv r) ∧ Ext w w_) := by
 have H := wp.qcq.math x0 x1
 refine begK mixed Tryz.f225 ann (vc x0 x1) ?_
 unfold vc
 unfold wp.qcq at H
 obtain ⟨r21, hr22, H⟩ := qad H
 refine (qbk.con hr22 ).mono ?_
 rintro _ w24 ⟨rfl, e25⟩
 have hB := qa5 (Ext.refl w) e25
 refine ⟨r21, rfl, ?_⟩
 cases hr.trans H.symm
 exact ⟨rfl, hB⟩
def qcn.vc (x0 x1 : Int) (w : World) (K : VK) : Prop :=
  Cl 207 #[(iv x0), (iv x1), (iv (wrap .i64 (x0 * x1)))] w fun v21 w22 => (∃ (n23 : Int), v21 = (iv n23) ∧ K (iv n23) w22)

def qcn.ann : Ann := (.seq .l (.seq .l .l))

theorem qcn.con {x0 x1 r : Int} {w : World} (hr : r = M.qcn x0 x1)  :
    Cl 226 #[(iv x0), (iv x1)] w (fun v_ w_ => v_ = (iv r) ∧ Ext w w_) := by
 have H := wp.qcn.math x0 x1
 refine begK mixed Tryz.f226 ann (vc x0 x1) ?_
 unfold vc
 unfold wp.qcn at H
 obtain ⟨r21, hr22, H⟩ := qad H
 refine (qbk.con hr22 ).mono ?_
 rintro _ w24 ⟨rfl, e25⟩
 have hB := qa5 (Ext.refl w) e25
 refine ⟨r21, rfl, ?_⟩
 cases hr.trans H.symm
 exact ⟨rfl, hB⟩
def qcd.vc (x0 x1 : Int) (w : World) (K : VK) : Prop :=
  Cl 178 #[(iv x0)] w fun v21 w22 => (∃ (b23 : Bool), v21 = (.bool b23) ∧ qa1 b23 (Cl 178 #[(iv x1)] w22 fun v24 w25 => (∃ (b26 : Bool), v24 = (.bool b26) ∧ qa1 b26 (qa1 (decide (x0 < x1)) (K (iv 1) w25) (K (iv 0) w25)) (K (iv 0) w25))) (K (iv 0) w22))

def qcd.ann : Ann := (.seq .l (.seq (.seq .l (.two (.seq .l .l) .l)) (.seq .l .l)))

theorem qcd.con {x0 x1 r : Int} {w : World} (hr : r = M.qcd x0 x1)  :
    Cl 227 #[(iv x0), (iv x1)] w (fun v_ w_ => v_ = (iv r) ∧ Ext w w_) := by
 have H := wp.qcd.math x0 x1
 refine begK mixed Tryz.f227 ann (vc x0 x1) ?_
 unfold vc
 unfold wp.qcd at H
 obtain ⟨r21, hr22, H⟩ := qad H
 refine (qbD.con hr22 ).mono ?_
 rintro _ w24 ⟨rfl, e25⟩
 have hB := qa5 (Ext.refl w) e25
 refine ⟨r21, rfl, ?_⟩
 refine brc H (fun h H => ?_) fun h H => ?_
 ·obtain ⟨r26, hr27, H⟩ := qad H
  refine (qbD.con hr27 ).mono ?_
  rintro _ w29 ⟨rfl, e30⟩
  have hB := qa5 hB e30
  refine ⟨r26, rfl, ?_⟩
  refine brc H (fun h H => ?_) fun h H => ?_
  ·refine brc H (fun h H => ?_) fun h H => ?_
   ·cases hr.trans H.symm
    exact ⟨rfl, hB⟩
   cases hr.trans H.symm
   exact ⟨rfl, hB⟩
  cases hr.trans H.symm
  exact ⟨rfl, hB⟩
 cases hr.trans H.symm
 exact ⟨rfl, hB⟩
def qbx.vc (x0 : Int) (w : World) (K : VK) : Prop :=
  Cl 78 #[(iv x0), (iv 0), (iv 2)] w fun v21 w22 => (∃ (b23 : Bool), v21 = (.bool b23) ∧ K (.bool b23) w22)

def qbx.ann : Ann := (.seq .l (.seq .l .l))

theorem qbx.con {x0 : Int} {r : Bool} {w : World} (hr : r = M.qbx x0)  :
    Cl 137 #[(iv x0)] w (fun v_ w_ => v_ = (.bool r) ∧ Ext w w_) := by
 have H := wp.qbx.math x0
 refine begK mixed Tryz.f137 ann (vc x0) ?_
 unfold vc
 unfold wp.qbx at H
 obtain ⟨r21, hr22, H⟩ := qad H
 refine (qar.con hr22 ).mono ?_
 rintro _ w24 ⟨rfl, e25⟩
 have hB := qa5 (Ext.refl w) e25
 refine ⟨r21, rfl, ?_⟩
 cases hr.trans H.symm
 exact ⟨rfl, hB⟩
def qaS.vc (A0 : OA) (n0 c0 : Nat) (x1 : Int) (w : World) (K : VK) : Prop :=
  qdA (σ := Int × Unit) (fun z21 w22 next23 => qa1 (decide (z21.1 < ((n0 : Nat) : Int))) ((idx z21.1 n0 A0 fun a24 => ldI w22 ((a24.add ((z21.1.toNat) * 1)).add 0) fun n25 => qa1 (x1 == n25) (K (iv z21.1) w22) (next23 ((wrap .i64 (z21.1 + 1)), ()) w22))) (K (iv (-1)) w22)) (0, ()) w

def qaS.ann : Ann := (.seq .l (.seq (.seq .l (.one (.loop [(8, .int .i64)] (.seq .l (.seq (.two .l .l) (.seq (.one (.seq .l (.seq .l (.two (.seq .l .l) .l)))) .l)))))) (.seq .l .l)))

theorem qaS.con {xs0 : List Int} {A0 : OA} {c0 : Nat} {x1 r : Int} {w : World} (hp : M.qeq xs0 x1) (hr : r = M.qaS xs0 x1) (R0 : Row el3 w A0 xs0) (hc0 : xs0.length ≤ c0) :
    Cl 210 #[(sv A0 xs0.length c0), (iv x1)] w (fun v_ w_ => v_ = (iv r) ∧ Ext w w_) := by
 have H := wp.qaS.math xs0 x1 hp
 have hB := Ext.refl w
 refine begK mixed Tryz.f210 ann (vc A0 xs0.length c0 x1) ?_
 unfold vc
 unfold wp.qaS at H
 obtain ⟨J23, ⟨m39, hJ38⟩, hS24⟩ := H
 refine ⟨fun m_ z_ w_ => ∃ (i21 : Int), z_ = (i21, ()) ∧ J23 m_ (i21, ()) ∧ Ext w w_, ⟨m39, 0, rfl, hJ38, hB⟩, ?_⟩
 rintro m22 _ w26 ⟨i21, rfl, hJ40, hB⟩
 have H := hS24 m22 _ hJ40
 clear hS24 hJ40
 try dsimp only at H ⊢
 refine brc H (fun h H => ?_) fun h H => ?_
 ·obtain ⟨⟨h0_30, h1_31⟩, H⟩ := H
  obtain ⟨a28, ha29, hat27⟩ := Row.at (R0.ext hB) h0_30 h1_31
  refine ⟨h0_30, h1_31, a28, ha29, _, (hat27 0 _ rfl), ?_⟩
  refine brc H (fun h H => ?_) fun h H => ?_
  ·cases hr.trans H.symm
   exact ⟨rfl, hB⟩
  obtain ⟨m32, hm33, hJ34⟩ := H
  exact ⟨m32, hm33, _, rfl, hJ34, hB⟩
 cases hr.trans H.symm
 exact ⟨rfl, hB⟩
def qaU.vc (A0 : OA) (n0 c0 : Nat) (x1 : Int) (w : World) (K : VK) : Prop :=
  Cl 210 #[(sv A0 n0 c0), (iv x1)] w fun v21 w22 => (∃ (n23 : Int), v21 = (iv n23) ∧ K (.bool (decide (n23 ≥ 0))) w22)

def qaU.ann : Ann := (.seq .l (.seq .l .l))

theorem qaU.con {xs0 : List Int} {A0 : OA} {c0 : Nat} {x1 : Int} {r : Bool} {w : World} (hp : M.qe4 xs0 x1) (hr : r = M.qaU xs0 x1) (R0 : Row el3 w A0 xs0) (hc0 : xs0.length ≤ c0) :
    Cl 182 #[(sv A0 xs0.length c0), (iv x1)] w (fun v_ w_ => v_ = (.bool r) ∧ Ext w w_) := by
 have H := wp.qaU.math xs0 x1 hp
 have hB := Ext.refl w
 refine begK mixed Tryz.f182 ann (vc A0 xs0.length c0 x1) ?_
 unfold vc
 unfold wp.qaU at H
 obtain ⟨hp23, H⟩ := H
 obtain ⟨r21, hr22, H⟩ := qad H
 refine (qaS.con hp23 hr22 (R0.ext hB) hc0).mono ?_
 rintro _ w24 ⟨rfl, e25⟩
 have hB := qa5 hB e25
 refine ⟨r21, rfl, ?_⟩
 cases hr.trans H.symm
 exact ⟨rfl, hB⟩
def qaK.vc (A0 : OA) (n0 c0 : Nat) (w : World) (K : VK) : Prop :=
  qdA (σ := Int × Int × Unit) (fun z21 w22 next23 => qa1 (decide (z21.2.1 < ((n0 : Nat) : Int))) (qa1 (decide (z21.2.1 < 4000)) ((idx z21.2.1 n0 A0 fun a25 => ∃ (n26 : Int), w22.cell? ((a25.add ((z21.2.1.toNat) * 1)).add 0) = some (.int .u8 n26) ∧ next23 ((qdH .i64 (wrap .i64 ((wrap .i64 ((wrap .i64 (z21.1 * 131)) + (wrap .i64 n26))) + 7)) 1073741823), (wrap .i64 (z21.2.1 + 1)), ()) w22)) (newK w22 (.cells #[(sv A0 n0 c0), (iv 0), (iv z21.1)] 129) fun g27 w28 => K (.pointer (some (bx g27))) w28)) (newK w22 (.cells #[(sv A0 n0 c0), (iv 0), (iv z21.1)] 129) fun g29 w30 => K (.pointer (some (bx g29))) w30)) ((wrap .i64 (98561 + ((n0 : Nat) : Int))), 0, ()) w

def qaK.ann : Ann := (.seq .l (.seq .l (.seq (.seq .l (.one (.loop [(3, .int .i64), (4, .int .i64)] (.seq (.seq .l (.two .l .l)) (.seq (.one .l) .l))))) (.seq .l .l))))

theorem qaK.con {xs0 : List Int} {A0 : OA} {c0 : Nat} {r : D.Cur} {w : World} (hp : M.qeK xs0) (hr : r = M.qaK xs0) (R0 : Row el5 w A0 xs0) (hc0 : xs0.length ≤ c0) :
    Cl 59 #[(sv A0 xs0.length c0)] w (fun v_ w_ => ∃ (g0_ : Nat), v_ = (.pointer (some (bx g0_))) ∧ Blk w_ g0_ 129 #[(sv A0 r.b.length c0), (iv r.i), (iv r.h)] ∧ r.b = xs0 ∧ w.heap.size ≤ g0_ ∧ Ext w w_) := by
 have H := wp.qaK.math xs0 hp
 have hB := Ext.refl w
 refine begK mixed Tryz.f59 ann (vc A0 xs0.length c0) ?_
 unfold vc
 unfold wp.qaK at H
 obtain ⟨J24, ⟨m44, hJ43⟩, hS25⟩ := H
 refine ⟨fun m_ z_ w_ => ∃ (i21 i22 : Int), z_ = (i21, i22, ()) ∧ J24 m_ (i21, i22, ()) ∧ Ext w w_, ⟨m44, (wrap .i64 (98561 + (xs0.length : Int))), 0, rfl, hJ43, hB⟩, ?_⟩
 rintro m23 _ w27 ⟨i21, i22, rfl, hJ45, hB⟩
 have H := hS25 m23 _ hJ45
 clear hS25 hJ45
 try dsimp only at H ⊢
 refine brc H (fun h H => ?_) fun h H => ?_
 ·refine brc H (fun h H => ?_) fun h H => ?_
  ·obtain ⟨⟨h0_31, h1_32⟩, H⟩ := H
   obtain ⟨a29, ha30, hat28⟩ := Row.at (R0.ext hB) h0_31 h1_32
   refine ⟨h0_31, h1_32, a29, ha30, _, (hat28 0 _ rfl), ?_⟩
   obtain ⟨m33, hm34, hJ35⟩ := H
   exact ⟨m33, hm34, _, _, rfl, hJ35, hB⟩
  refine qax (fun g2_ w36 L2 O2 e37 => ?_)
  have L2 := Nat.le_trans hB.size L2
  have hB := qa5 hB e37
  cases hr.trans H.symm
  exact ⟨g2_, rfl, O2, rfl, L2, hB⟩
 refine qax (fun g3_ w39 L3 O3 e40 => ?_)
 have L3 := Nat.le_trans hB.size L3
 have hB := qa5 hB e40
 cases hr.trans H.symm
 exact ⟨g3_, rfl, O3, rfl, L3, hB⟩
def qaj.vc (p0 : Addr) (w : World) (K : VK) : Prop :=
  ldI w ((p0.add 2).add 0) fun n21 => qa7 (p0.add 2) [(iv (wrap .i64 ((wrap .i64 (n21 * 6364136223846793005)) + 1442695040888963407)))] 0 w fun w22 => ldI w22 ((p0.add 2).add 0) fun n23 => ((0 : Int) ≤ 33 ∧ ldI w22 ((p0.add 2).add 0) fun n24 => ((0 : Int) ≤ 45 ∧ ∃ (n25 : Int), w22.drew.cell? ((p0.add 1).add 0) = some (iv n25) ∧ ∃ (A26 : OA) (n27 c28 : Nat), w22.drew.cell? ((p0.add 0).add 0) = some (sv A26 n27 c28) ∧ qa1 (decide (n25 < ((n27 : Nat) : Int))) (∃ (A29 : OA) (n30 c31 : Nat), w22.drew.drew.cell? ((p0.add 0).add 0) = some (sv A29 n30 c31) ∧ ∃ (n32 : Int), w22.drew.drew.cell? ((p0.add 1).add 0) = some (iv n32) ∧ (idx n32 n30 A29 fun a33 => ∃ (n34 : Int), w22.drew.drew.cell? ((a33.add ((n32.toNat) * 1)).add 0) = some (.int .u8 n34) ∧ ∃ (n35 : Int), w22.drew.drew.drew.cell? ((p0.add 1).add 0) = some (iv n35) ∧ qa7 (p0.add 1) [(iv (wrap .i64 (n35 + 1)))] 0 w22.drew.drew.drew fun w36 => K (iv (qdH .i64 (wrap .i64 ((qdH .i64 (qgK .i64 (Int.fdiv n23 (2 ^ (min ((33 : Int).toNat) (IntKind.bits .i64)))) (Int.fdiv n24 (2 ^ (min ((45 : Int).toNat) (IntKind.bits .i64))))) 255) + (wrap .i64 n34))) 255)) w36)) (K (iv (qdH .i64 (qgK .i64 (Int.fdiv n23 (2 ^ (min ((33 : Int).toNat) (IntKind.bits .i64)))) (Int.fdiv n24 (2 ^ (min ((45 : Int).toNat) (IntKind.bits .i64))))) 255)) w22.drew.drew)))

def qaj.ann : Ann := (.seq .l (.seq .l (.seq .l (.seq (.seq .l (.two (.seq .l .l) .l)) (.seq .l .l)))))

theorem qaj.con {s0 : D.Cur} {g1_ c0_0 : Nat} {A0_0 : OA} {r : Int × D.Cur} {w : World} (hp : M.qdO s0) (hr : r = M.qaj s0) (O1 : Blk w g1_ 129 #[(sv A0_0 s0.b.length c0_0), (iv s0.i), (iv s0.h)]) (R0_0 : Row el5 w A0_0 s0.b) (hc0_0 : s0.b.length ≤ c0_0) (D0_0 : s0.b ≠ [] → ∀ g, InB A0_0 g → ¬ (fun k_ => k_ = g1_) g) :
    Cl 126 #[(.pointer (some (bx g1_)))] w (fun v_ w_ => v_ = (iv r.1) ∧ Blk w_ g1_ 129 #[(sv A0_0 r.2.b.length c0_0), (iv r.2.i), (iv r.2.h)] ∧ r.2.b = s0.b ∧ Chg (fun k_ => k_ = g1_) w w_) := by
 have H := wp.qaj.math s0 hp
 refine begK mixed Tryz.f126 ann (vc (bx g1_)) ?_
 unfold vc
 unfold wp.qaj at H
 refine ⟨_, (O1.a 2), ?_⟩
 refine stB O1 2 #[(sv A0_0 s0.b.length c0_0), (iv s0.i), (iv (wrap .i64 ((wrap .i64 (s0.h * 6364136223846793005)) + 1442695040888963407)))] (fun w21 P1 e22 => ?_)
 have O1 := P1
 refine ⟨_, (O1.a 2), by decide, _, (O1.a 2), by decide, ?_⟩
 have O1 := O1.ext (Ext.drew _)
 refine ⟨_, (O1.a 1), _, _, _, (O1.a 0), ?_⟩
 have O1 := O1.ext (Ext.drew _)
 have hB := (((Chg.refl (fun k_ => k_ = g1_) w).chgb e22 (Or.inr rfl)).then (Ext.drew _)).then (Ext.drew _)
 refine brc H (fun h H => ?_) fun h H => ?_
 ·refine ⟨_, _, _, (O1.a 0), _, (O1.a 1), ?_⟩
  obtain ⟨⟨h0_31, h1_32⟩, H⟩ := H
  obtain ⟨a29, ha30, hat28⟩ := Row.at (R0_0.chgS hB D0_0) h0_31 h1_32
  refine ⟨h0_31, h1_32, a29, ha30, _, (hat28 0 _ rfl), ?_⟩
  have O1 := O1.ext (Ext.drew _)
  refine ⟨_, (O1.a 1), ?_⟩
  refine qbI O1 (o := 1) (cs' := #[(sv A0_0 s0.b.length c0_0), (iv (wrap .i64 (s0.i + 1))), (iv (wrap .i64 ((wrap .i64 (s0.h * 6364136223846793005)) + 1442695040888963407)))]) rfl rfl (Nat.le_of_ble_eq_true rfl) rfl (fun w33 O1 e34 => ?_)
  have hB := (hB.then (Ext.drew _)).chgb e34 (Or.inr rfl)
  cases hr.trans H.symm
  exact ⟨rfl, O1, rfl, hB⟩
 cases hr.trans H.symm
 exact ⟨rfl, O1, rfl, hB⟩
def qa0.vc (p0 : Addr) (x1 : Int) (w : World) (K : VK) : Prop :=
  qa1 (decide (x1 ≤ 0)) (K (iv 0) w) (qa1 (decide (x1 ≤ 256)) (Cl 126 #[(.pointer (some p0))] w fun v21 w22 => (∃ (n23 : Int), v21 = (iv n23) ∧ ((x1 : Int) ≠ 0 ∧ K (iv (Int.tmod n23 x1)) w22))) (Cl 126 #[(.pointer (some p0))] w fun v24 w25 => (∃ (n26 : Int), v24 = (iv n26) ∧ Cl 126 #[(.pointer (some p0))] w25 fun v27 w28 => (∃ (n29 : Int), v27 = (iv n29) ∧ Cl 126 #[(.pointer (some p0))] w28 fun v30 w31 => (∃ (n32 : Int), v30 = (iv n32) ∧ Cl 126 #[(.pointer (some p0))] w31 fun v33 w34 => (∃ (n35 : Int), v33 = (iv n35) ∧ ((x1 : Int) ≠ 0 ∧ K (iv (Int.tmod (wrap .i64 ((wrap .i64 ((wrap .i64 ((wrap .i64 (n26 * 16777216)) + (wrap .i64 (n29 * 65536)))) + (wrap .i64 (n32 * 256)))) + n35)) x1)) w34)))))))

def qa0.ann : Ann := (.seq .l (.seq (.seq .l (.two (.seq .l .l) .l)) (.seq (.seq .l (.two (.seq .l .l) .l)) (.seq .l (.seq .l (.seq .l (.seq .l (.seq .l .l))))))))

theorem qa0.con {s0 : D.Cur} {g1_ c0_0 : Nat} {A0_0 : OA} {x1 : Int} {r : Int × D.Cur} {w : World} (hp : M.qas s0 x1) (hr : r = M.qa0 s0 x1) (O1 : Blk w g1_ 129 #[(sv A0_0 s0.b.length c0_0), (iv s0.i), (iv s0.h)]) (R0_0 : Row el5 w A0_0 s0.b) (hc0_0 : s0.b.length ≤ c0_0) (D0_0 : s0.b ≠ [] → ∀ g, InB A0_0 g → ¬ (fun k_ => k_ = g1_) g) :
    Cl 67 #[(.pointer (some (bx g1_))), (iv x1)] w (fun v_ w_ => v_ = (iv r.1) ∧ Blk w_ g1_ 129 #[(sv A0_0 r.2.b.length c0_0), (iv r.2.i), (iv r.2.h)] ∧ r.2.b = s0.b ∧ Chg (fun k_ => k_ = g1_) w w_) := by
 have H := wp.qa0.math s0 x1 hp
 have hB := Chg.refl (fun k_ => k_ = g1_) w
 refine begK mixed Tryz.f67 ann (vc (bx g1_) x1) ?_
 unfold vc
 unfold wp.qa0 at H
 refine brc H (fun h H => ?_) fun h H => ?_
 ·cases hr.trans H.symm
  exact ⟨rfl, O1, rfl, hB⟩
 refine brc H (fun h H => ?_) fun h H => ?_
 ·obtain ⟨hp23, H⟩ := H
  obtain ⟨r21, hr22, H⟩ := qad H
  refine (qaj.con hp23 hr22 O1 (R0_0.chgS hB D0_0) hc0_0 (fun hx_ => (fun g h_ hS_ => D0_0 hx_ g h_ hS_))).mono ?_
  rintro _ w24 ⟨rfl, Q1, hq26, e25⟩
  simp only [bC, wC, hq26] at Q1
  have hB := hB.chg e25 (fun g h_ => Or.inr h_)
  have O1 := Q1
  refine ⟨r21.1, rfl, ?_⟩
  obtain ⟨hc27, H⟩ := H
  refine ⟨hc27, ?_⟩
  cases hr.trans H.symm
  exact ⟨rfl, O1, rfl, hB⟩
 obtain ⟨hp30, H⟩ := H
 obtain ⟨r28, hr29, H⟩ := qad H
 refine (qaj.con hp30 hr29 O1 (R0_0.chgS hB D0_0) hc0_0 (fun hx_ => (fun g h_ hS_ => D0_0 hx_ g h_ hS_))).mono ?_
 rintro _ w31 ⟨rfl, Q1, hq33, e32⟩
 simp only [bC, wC, hq33] at Q1
 have hB := hB.chg e32 (fun g h_ => Or.inr h_)
 have O1 := Q1
 refine ⟨r28.1, rfl, ?_⟩
 obtain ⟨hp36, H⟩ := H
 obtain ⟨r34, hr35, H⟩ := qad H
 refine (qaj.con hp36 hr35 O1 (R0_0.chgS hB D0_0) hc0_0 (fun hx_ => (fun g h_ hS_ => D0_0 hx_ g h_ hS_))).mono ?_
 rintro _ w37 ⟨rfl, Q1, hq39, e38⟩
 simp only [bC, wC, hq39] at Q1
 have hB := hB.chg e38 (fun g h_ => Or.inr h_)
 have O1 := Q1
 refine ⟨r34.1, rfl, ?_⟩
 obtain ⟨hp42, H⟩ := H
 obtain ⟨r40, hr41, H⟩ := qad H
 refine (qaj.con hp42 hr41 O1 (R0_0.chgS hB D0_0) hc0_0 (fun hx_ => (fun g h_ hS_ => D0_0 hx_ g h_ hS_))).mono ?_
 rintro _ w43 ⟨rfl, Q1, hq45, e44⟩
 simp only [bC, wC, hq45] at Q1
 have hB := hB.chg e44 (fun g h_ => Or.inr h_)
 have O1 := Q1
 refine ⟨r40.1, rfl, ?_⟩
 obtain ⟨hp48, H⟩ := H
 obtain ⟨r46, hr47, H⟩ := qad H
 refine (qaj.con hp48 hr47 O1 (R0_0.chgS hB D0_0) hc0_0 (fun hx_ => (fun g h_ hS_ => D0_0 hx_ g h_ hS_))).mono ?_
 rintro _ w49 ⟨rfl, Q1, hq51, e50⟩
 simp only [bC, wC, hq51] at Q1
 have hB := hB.chg e50 (fun g h_ => Or.inr h_)
 have O1 := Q1
 refine ⟨r46.1, rfl, ?_⟩
 obtain ⟨hc52, H⟩ := H
 refine ⟨hc52, ?_⟩
 cases hr.trans H.symm
 exact ⟨rfl, O1, rfl, hB⟩
def qau.vc (p0 : Addr) (A1 : OA) (n1 c1 : Nat) (w : World) (K : VK) : Prop :=
  Cl 67 #[(.pointer (some p0)), (iv ((n1 : Nat) : Int))] w fun v21 w22 => (∃ (n23 : Int), v21 = (iv n23) ∧ (idx n23 n1 A1 fun a24 => ldI w22 ((a24.add ((n23.toNat) * 1)).add 0) fun n25 => K (iv n25) w22))

def qau.ann : Ann := (.seq .l (.seq .l .l))

theorem qau.con {s0 : D.Cur} {g1_ c0_0 c1 : Nat} {A0_0 A1 : OA} {xs1 : List Int} {r : Int × D.Cur} {w : World} (hp : M.qe3 s0 xs1) (hr : r = M.qau s0 xs1) (O1 : Blk w g1_ 129 #[(sv A0_0 s0.b.length c0_0), (iv s0.i), (iv s0.h)]) (R0_0 : Row el5 w A0_0 s0.b) (hc0_0 : s0.b.length ≤ c0_0) (R1 : Row el3 w A1 xs1) (hc1 : xs1.length ≤ c1) (D0_0 : s0.b ≠ [] → ∀ g, InB A0_0 g → ¬ (fun k_ => k_ = g1_) g) (D1 : xs1 ≠ [] → ∀ g, InB A1 g → ¬ (fun k_ => k_ = g1_) g) :
    Cl 140 #[(.pointer (some (bx g1_))), (sv A1 xs1.length c1)] w (fun v_ w_ => v_ = (iv r.1) ∧ Blk w_ g1_ 129 #[(sv A0_0 r.2.b.length c0_0), (iv r.2.i), (iv r.2.h)] ∧ r.2.b = s0.b ∧ Chg (fun k_ => k_ = g1_) w w_) := by
 have H := wp.qau.math s0 xs1 hp
 have hB := Chg.refl (fun k_ => k_ = g1_) w
 refine begK mixed Tryz.f140 ann (vc (bx g1_) A1 xs1.length c1) ?_
 unfold vc
 unfold wp.qau at H
 obtain ⟨hp23, H⟩ := H
 obtain ⟨r21, hr22, H⟩ := qad H
 refine (qa0.con hp23 hr22 O1 (R0_0.chgS hB D0_0) hc0_0 (fun hx_ => (fun g h_ hS_ => D0_0 hx_ g h_ hS_))).mono ?_
 rintro _ w24 ⟨rfl, Q1, hq26, e25⟩
 simp only [bC, wC, hq26] at Q1
 have hB := hB.chg e25 (fun g h_ => Or.inr h_)
 have O1 := Q1
 refine ⟨r21.1, rfl, ?_⟩
 obtain ⟨⟨h0_30, h1_31⟩, H⟩ := H
 obtain ⟨a28, ha29, hat27⟩ := Row.at (R1.chgS hB D1) h0_30 h1_31
 refine ⟨h0_30, h1_31, a28, ha29, _, (hat27 0 _ rfl), ?_⟩
 cases hr.trans H.symm
 exact ⟨rfl, O1, rfl, hB⟩
def qaA.vc (p0 : Addr) (w : World) (K : VK) : Prop :=
  newK w (.cells #[(iv 0), (iv 0), (iv 0), (iv 0)] 84) fun g21 w22 => Cl 67 #[(.pointer (some p0)), (iv 9)] w22 fun v23 w24 => (∃ (n25 : Int), v23 = (iv n25) ∧ Cl 67 #[(.pointer (some p0)), (iv 4)] w24 fun v26 w27 => (∃ (n28 : Int), v26 = (iv n28) ∧ newK w27 (.cells #[(iv 0), (iv 0), (iv 0), (iv 0)] 84) fun g29 w30 => qa7 (bx g29) [(iv (wrap .i64 (1 + n25))), (iv n28), (iv 0), (iv 0)] 0 w30 fun w31 => ldI w31 (((bx g29).add 0).add 0) fun n32 => qa1 (n32 == 1) (Cl 67 #[(.pointer (some p0)), (iv 6)] w31 fun v33 w34 => (∃ (n35 : Int), v33 = (iv n35) ∧ qa7 ((bx g29).add 2) [(iv n35)] 0 w34 fun w36 => ldI w36 ((bx g29).add 0) fun n37 => ldI w36 ((bx g29).add 1) fun n38 => ldI w36 ((bx g29).add 2) fun n39 => ldI w36 ((bx g29).add 3) fun n40 => qa7 (bx g21) [(iv n37), (iv n38), (iv n39), (iv n40)] 0 w36 fun w41 => ldI w41 ((bx g21).add 0) fun n42 => ldI w41 ((bx g21).add 1) fun n43 => ldI w41 ((bx g21).add 2) fun n44 => ldI w41 ((bx g21).add 3) fun n45 => K (.agg #[(iv n42), (iv n43), (iv n44), (iv n45)]) w41)) (qa1 (n32 == 8) (ldI w31 ((bx g29).add 0) fun n46 => ldI w31 ((bx g29).add 1) fun n47 => ldI w31 ((bx g29).add 2) fun n48 => ldI w31 ((bx g29).add 3) fun n49 => qa7 (bx g21) [(iv n46), (iv n47), (iv n48), (iv n49)] 0 w31 fun w50 => ldI w50 ((bx g21).add 0) fun n51 => ldI w50 ((bx g21).add 1) fun n52 => ldI w50 ((bx g21).add 2) fun n53 => ldI w50 ((bx g21).add 3) fun n54 => K (.agg #[(iv n51), (iv n52), (iv n53), (iv n54)]) w50) (qa1 (n32 == 2) (Cl 67 #[(.pointer (some p0)), (iv 4)] w31 fun v55 w56 => (∃ (n57 : Int), v55 = (iv n57) ∧ qa7 ((bx g29).add 2) [(iv n57)] 0 w56 fun w58 => ldI w58 ((bx g29).add 0) fun n59 => ldI w58 ((bx g29).add 1) fun n60 => ldI w58 ((bx g29).add 2) fun n61 => ldI w58 ((bx g29).add 3) fun n62 => qa7 (bx g21) [(iv n59), (iv n60), (iv n61), (iv n62)] 0 w58 fun w63 => ldI w63 ((bx g21).add 0) fun n64 => ldI w63 ((bx g21).add 1) fun n65 => ldI w63 ((bx g21).add 2) fun n66 => ldI w63 ((bx g21).add 3) fun n67 => K (.agg #[(iv n64), (iv n65), (iv n66), (iv n67)]) w63)) (Cl 67 #[(.pointer (some p0)), (iv 4)] w31 fun v68 w69 => (∃ (n70 : Int), v68 = (iv n70) ∧ qa7 ((bx g29).add 2) [(iv n70)] 0 w69 fun w71 => Cl 67 #[(.pointer (some p0)), (iv 4)] w71 fun v72 w73 => (∃ (n74 : Int), v72 = (iv n74) ∧ qa7 ((bx g29).add 3) [(iv n74)] 0 w73 fun w75 => ldI w75 ((bx g29).add 0) fun n76 => ldI w75 ((bx g29).add 1) fun n77 => ldI w75 ((bx g29).add 2) fun n78 => ldI w75 ((bx g29).add 3) fun n79 => qa7 (bx g21) [(iv n76), (iv n77), (iv n78), (iv n79)] 0 w75 fun w80 => ldI w80 ((bx g21).add 0) fun n81 => ldI w80 ((bx g21).add 1) fun n82 => ldI w80 ((bx g21).add 2) fun n83 => ldI w80 ((bx g21).add 3) fun n84 => K (.agg #[(iv n81), (iv n82), (iv n83), (iv n84)]) w80)))))))

def qaA.ann : Ann := (.seq .l (.seq .l (.seq (.seq .l (.one (.seq .l (.two .l (.seq .l (.two .l (.seq .l (.two .l (.seq .l .l))))))))) (.seq .l .l))))

theorem qaA.con {s0 : D.Cur} {g1_ c0_0 : Nat} {A0_0 : OA} {r : D.Ins × D.Cur} {w : World} (hp : M.qeQ s0) (hr : r = M.qaA s0) (O1 : Blk w g1_ 129 #[(sv A0_0 s0.b.length c0_0), (iv s0.i), (iv s0.h)]) (R0_0 : Row el5 w A0_0 s0.b) (hc0_0 : s0.b.length ≤ c0_0) (D0_0 : s0.b ≠ [] → ∀ g, InB A0_0 g → ¬ (fun k_ => k_ = g1_) g) :
    Cl 143 #[(.pointer (some (bx g1_)))] w (fun v_ w_ => v_ = (.agg (iC r.1)) ∧ Blk w_ g1_ 129 #[(sv A0_0 r.2.b.length c0_0), (iv r.2.i), (iv r.2.h)] ∧ r.2.b = s0.b ∧ Chg (fun k_ => k_ = g1_) w w_) := by
 have H := wp.qaA.math s0 hp
 have hB := Chg.refl (fun k_ => k_ = g1_) w
 refine begK mixed Tryz.f143 ann (vc (bx g1_)) ?_
 unfold vc
 unfold wp.qaA at H
 refine qax (fun g3_ w21 L3 P3 e22 => ?_)
 have N1_3 := O1.ne L3
 have O1 := O1.ext e22
 have L3 := Nat.le_trans hB.size L3
 have hB := hB.then e22
 obtain ⟨hp25, H⟩ := H
 obtain ⟨r23, hr24, H⟩ := qad H
 refine (qa0.con hp25 hr24 O1 (R0_0.chgS hB D0_0) hc0_0 (fun hx_ => (fun g h_ hS_ => D0_0 hx_ g h_ hS_))).mono ?_
 rintro _ w26 ⟨rfl, Q1, hq28, e27⟩
 simp only [bC, wC, hq28] at Q1
 have hB := hB.chg e27 (fun g h_ => Or.inr h_)
 have O1 := Q1
 refine ⟨r23.1, rfl, ?_⟩
 obtain ⟨hp31, H⟩ := H
 obtain ⟨r29, hr30, H⟩ := qad H
 refine (qa0.con hp31 hr30 O1 (R0_0.chgS hB D0_0) hc0_0 (fun hx_ => (fun g h_ hS_ => D0_0 hx_ g h_ hS_))).mono ?_
 rintro _ w32 ⟨rfl, Q1, hq34, e33⟩
 simp only [bC, wC, hq34] at Q1
 have O3 := (P3.chgS e27 ((N1_3).symm)).chgS e33 ((N1_3).symm)
 have hB := hB.chg e33 (fun g h_ => Or.inr h_)
 have O1 := Q1
 refine ⟨r29.1, rfl, ?_⟩
 refine qax (fun g4_ w35 L4 P4 e36 => ?_)
 have N1_4 := O1.ne L4
 have N3_4 := O3.ne L4
 have O1 := O1.ext e36
 have O3 := O3.ext e36
 have O4 := P4
 have L4 := Nat.le_trans hB.size L4
 refine stB O4 0 #[(iv (wrap .i64 (1 + r23.1))), (iv r29.1), (iv 0), (iv 0)] (fun w37 P4 e38 => ?_)
 have O1_ := O1.chg e38 N1_4
 have O3_ := O3.chg e38 N3_4
 have O1 := O1_
 have O3 := O3_
 have hB := (hB.then e36).chgb e38 (Or.inl L4)
 have O4 := P4
 refine ⟨_, (O4.a 0), ?_⟩
 refine brc H (fun h H => ?_) fun h H => ?_
 ·obtain ⟨hp41, H⟩ := H
  obtain ⟨r39, hr40, H⟩ := qad H
  refine (qa0.con hp41 hr40 O1 (R0_0.chgS hB D0_0) hc0_0 (fun hx_ => (fun g h_ hS_ => D0_0 hx_ g h_ hS_))).mono ?_
  rintro _ w42 ⟨rfl, Q1, hq44, e43⟩
  simp only [bC, wC, hq44] at Q1
  have O4 := O4.chgS e43 ((N1_4).symm)
  have O1 := Q1
  refine ⟨r39.1, rfl, ?_⟩
  refine qbI O4 (o := 2) (cs' := #[(iv (wrap .i64 (1 + r23.1))), (iv r29.1), (iv r39.1), (iv 0)]) rfl rfl (Nat.le_of_ble_eq_true rfl) rfl (fun w45 O4 e46 => ?_)
  have O1_ := O1.chg e46 N1_4
  have O3 := (O3.chgS e43 ((N1_3).symm)).chg e46 N3_4
  refine ⟨_, (O4.a 0), _, (O4.a 1), _, (O4.a 2), _, (O4.a 3), ?_⟩
  refine qbI O3 (o := 0) (cs' := #[(iv (wrap .i64 (1 + r23.1))), (iv r29.1), (iv r39.1), (iv 0)]) rfl rfl (Nat.le_of_ble_eq_true rfl) rfl (fun w47 O3 e48 => ?_)
  have O1 := O1_.chg e48 N1_3
  have hB := ((hB.chg e43 (fun g h_ => Or.inr h_)).chgb e46 (Or.inl L4)).chgb e48 (Or.inl L3)
  refine ⟨_, (O3.a 0), _, (O3.a 1), _, (O3.a 2), _, (O3.a 3), ?_⟩
  cases hr.trans H.symm
  exact ⟨rfl, O1, rfl, hB⟩
 refine brc H (fun h H => ?_) fun h H => ?_
 ·refine ⟨_, (O4.a 0), _, (O4.a 1), _, (O4.a 2), _, (O4.a 3), ?_⟩
  refine qbI O3 (o := 0) (cs' := #[(iv (wrap .i64 (1 + r23.1))), (iv r29.1), (iv 0), (iv 0)]) rfl rfl (Nat.le_of_ble_eq_true rfl) rfl (fun w49 O3 e50 => ?_)
  have O1 := O1.chg e50 N1_3
  have hB := hB.chgb e50 (Or.inl L3)
  refine ⟨_, (O3.a 0), _, (O3.a 1), _, (O3.a 2), _, (O3.a 3), ?_⟩
  cases hr.trans H.symm
  exact ⟨rfl, O1, rfl, hB⟩
 refine brc H (fun h H => ?_) fun h H => ?_
 ·obtain ⟨hp53, H⟩ := H
  obtain ⟨r51, hr52, H⟩ := qad H
  refine (qa0.con hp53 hr52 O1 (R0_0.chgS hB D0_0) hc0_0 (fun hx_ => (fun g h_ hS_ => D0_0 hx_ g h_ hS_))).mono ?_
  rintro _ w54 ⟨rfl, Q1, hq56, e55⟩
  simp only [bC, wC, hq56] at Q1
  have O4 := O4.chgS e55 ((N1_4).symm)
  have O1 := Q1
  refine ⟨r51.1, rfl, ?_⟩
  refine qbI O4 (o := 2) (cs' := #[(iv (wrap .i64 (1 + r23.1))), (iv r29.1), (iv r51.1), (iv 0)]) rfl rfl (Nat.le_of_ble_eq_true rfl) rfl (fun w57 O4 e58 => ?_)
  have O1_ := O1.chg e58 N1_4
  have O3 := (O3.chgS e55 ((N1_3).symm)).chg e58 N3_4
  refine ⟨_, (O4.a 0), _, (O4.a 1), _, (O4.a 2), _, (O4.a 3), ?_⟩
  refine qbI O3 (o := 0) (cs' := #[(iv (wrap .i64 (1 + r23.1))), (iv r29.1), (iv r51.1), (iv 0)]) rfl rfl (Nat.le_of_ble_eq_true rfl) rfl (fun w59 O3 e60 => ?_)
  have O1 := O1_.chg e60 N1_3
  have hB := ((hB.chg e55 (fun g h_ => Or.inr h_)).chgb e58 (Or.inl L4)).chgb e60 (Or.inl L3)
  refine ⟨_, (O3.a 0), _, (O3.a 1), _, (O3.a 2), _, (O3.a 3), ?_⟩
  cases hr.trans H.symm
  exact ⟨rfl, O1, rfl, hB⟩
 obtain ⟨hp63, H⟩ := H
 obtain ⟨r61, hr62, H⟩ := qad H
 refine (qa0.con hp63 hr62 O1 (R0_0.chgS hB D0_0) hc0_0 (fun hx_ => (fun g h_ hS_ => D0_0 hx_ g h_ hS_))).mono ?_
 rintro _ w64 ⟨rfl, Q1, hq66, e65⟩
 simp only [bC, wC, hq66] at Q1
 have O3 := O3.chgS e65 ((N1_3).symm)
 have O4 := O4.chgS e65 ((N1_4).symm)
 have O1 := Q1
 refine ⟨r61.1, rfl, ?_⟩
 refine stB O4 2 #[(iv (wrap .i64 (1 + r23.1))), (iv r29.1), (iv r61.1), (iv 0)] (fun w67 P4 e68 => ?_)
 have O1_ := O1.chg e68 N1_4
 have O3_ := O3.chg e68 N3_4
 have O1 := O1_
 have hB := (hB.chg e65 (fun g h_ => Or.inr h_)).chgb e68 (Or.inl L4)
 obtain ⟨hp71, H⟩ := H
 obtain ⟨r69, hr70, H⟩ := qad H
 refine (qa0.con hp71 hr70 O1 (R0_0.chgS hB D0_0) hc0_0 (fun hx_ => (fun g h_ hS_ => D0_0 hx_ g h_ hS_))).mono ?_
 rintro _ w72 ⟨rfl, Q1, hq74, e73⟩
 simp only [bC, wC, hq74] at Q1
 have O4 := P4.chgS e73 ((N1_4).symm)
 have O1 := Q1
 refine ⟨r69.1, rfl, ?_⟩
 refine qbI O4 (o := 3) (cs' := #[(iv (wrap .i64 (1 + r23.1))), (iv r29.1), (iv r61.1), (iv r69.1)]) rfl rfl (Nat.le_of_ble_eq_true rfl) rfl (fun w75 O4 e76 => ?_)
 have O1_ := O1.chg e76 N1_4
 have O3 := (O3_.chgS e73 ((N1_3).symm)).chg e76 N3_4
 refine ⟨_, (O4.a 0), _, (O4.a 1), _, (O4.a 2), _, (O4.a 3), ?_⟩
 refine qbI O3 (o := 0) (cs' := #[(iv (wrap .i64 (1 + r23.1))), (iv r29.1), (iv r61.1), (iv r69.1)]) rfl rfl (Nat.le_of_ble_eq_true rfl) rfl (fun w77 O3 e78 => ?_)
 have O1 := O1_.chg e78 N1_3
 have hB := ((hB.chg e73 (fun g h_ => Or.inr h_)).chgb e76 (Or.inl L4)).chgb e78 (Or.inl L3)
 refine ⟨_, (O3.a 0), _, (O3.a 1), _, (O3.a 2), _, (O3.a 3), ?_⟩
 cases hr.trans H.symm
 exact ⟨rfl, O1, rfl, hB⟩
def qbO.vc (p0 : Addr) (w : World) (K : VK) : Prop :=
  Cl 67 #[(.pointer (some p0)), (iv 9)] w fun v21 w22 => (∃ (n23 : Int), v21 = (iv n23) ∧ Cl 67 #[(.pointer (some p0)), (iv 9000)] w22 fun v24 w25 => (∃ (n26 : Int), v24 = (iv n26) ∧ Run Tryz.prog (Instr.buildSlice 24 9 #[(0, (iv 0)), (1, (iv 1)), (2, (iv 2)), (3, (iv 7)), (4, (iv 100)), (5, (iv 65535)), (6, (iv 32768)), (7, (iv n23)), (8, (iv n26))]) w25 fun v27 w28 => ∃ (A29 : OA) (n30 c31 : Nat), v27 = .slice A29 n30 c31 ∧ Cl 140 #[(.pointer (some p0)), (sv A29 n30 c31)] w28 fun v32 w33 => (∃ (n34 : Int), v32 = (iv n34) ∧ K (iv n34) w33)))

def qbO.ann : Ann := (.seq .l (.seq .l .l))

theorem qbO.con {s0 : D.Cur} {g1_ c0_0 : Nat} {A0_0 : OA} {r : Int × D.Cur} {w : World} (hp : M.qgl s0) (hr : r = M.qbO s0) (O1 : Blk w g1_ 129 #[(sv A0_0 s0.b.length c0_0), (iv s0.i), (iv s0.h)]) (R0_0 : Row el5 w A0_0 s0.b) (hc0_0 : s0.b.length ≤ c0_0) (D0_0 : s0.b ≠ [] → ∀ g, InB A0_0 g → ¬ (fun k_ => k_ = g1_) g) :
    Cl 162 #[(.pointer (some (bx g1_)))] w (fun v_ w_ => v_ = (iv r.1) ∧ Blk w_ g1_ 129 #[(sv A0_0 r.2.b.length c0_0), (iv r.2.i), (iv r.2.h)] ∧ r.2.b = s0.b ∧ Chg (fun k_ => k_ = g1_) w w_) := by
 have H := wp.qbO.math s0 hp
 have hB := Chg.refl (fun k_ => k_ = g1_) w
 refine begK mixed Tryz.f162 ann (vc (bx g1_)) ?_
 unfold vc
 unfold wp.qbO at H
 obtain ⟨hp23, H⟩ := H
 obtain ⟨r21, hr22, H⟩ := qad H
 refine (qa0.con hp23 hr22 O1 (R0_0.chgS hB D0_0) hc0_0 (fun hx_ => (fun g h_ hS_ => D0_0 hx_ g h_ hS_))).mono ?_
 rintro _ w24 ⟨rfl, Q1, hq26, e25⟩
 simp only [bC, wC, hq26] at Q1
 have hB := hB.chg e25 (fun g h_ => Or.inr h_)
 have O1 := Q1
 refine ⟨r21.1, rfl, ?_⟩
 obtain ⟨hp29, H⟩ := H
 obtain ⟨r27, hr28, H⟩ := qad H
 refine (qa0.con hp29 hr28 O1 (R0_0.chgS hB D0_0) hc0_0 (fun hx_ => (fun g h_ hS_ => D0_0 hx_ g h_ hS_))).mono ?_
 rintro _ w30 ⟨rfl, Q1, hq32, e31⟩
 simp only [bC, wC, hq32] at Q1
 have hB := hB.chg e31 (fun g h_ => Or.inr h_)
 have O1 := Q1
 refine ⟨r27.1, rfl, ?_⟩
 refine qap el3 ([0, 1, 2, 7, 100, 65535, 32768, r21.1, r27.1] : List Int) (fun _ => by kernel_rfl) rfl (fun A33 w34 P3 e35 => ?_)
 have N3_1 := P3.qa8 O1.lt
 have O1 := O1.ext e35
 have O3 := P3.mono hB.size
 have hB := hB.then e35
 obtain ⟨hp38, H⟩ := H
 obtain ⟨r36, hr37, H⟩ := qad H
 refine (cllA (qau.con hp38 hr37 O1 (R0_0.chgS hB D0_0) hc0_0 O3.row O3.le (fun hx_ => (fun g h_ hS_ => D0_0 hx_ g h_ hS_)) (fun _ => (qcg N3_1)))).mono ?_
 rintro _ w39 ⟨rfl, Q1, hq41, e40⟩
 simp only [bC, wC, hq41] at Q1
 have hB := hB.chg e40 (fun g h_ => Or.inr h_)
 have O1 := Q1
 refine ⟨r36.1, rfl, ?_⟩
 cases hr.trans H.symm
 exact ⟨rfl, O1, rfl, hB⟩
def qbs.vc (p0 : Addr) (x1 : Int) (w : World) (K : VK) : Prop :=
  Run Tryz.prog (Instr.buildSlice 24 0 #[]) w fun v21 w22 => ∃ (A23 : OA) (n24 c25 : Nat), v21 = .slice A23 n24 c25 ∧ qdA (σ := (OA × Nat × Nat) × Int × Unit) (fun z26 w27 next28 => qa1 (decide (z26.2.1 < x1)) (Cl 162 #[(.pointer (some p0))] w27 fun v29 w30 => (∃ (n31 : Int), v29 = (iv n31) ∧ Run Tryz.prog (Instr.buildSlice 24 1 #[(0, (iv n31))]) w30 fun v32 w33 => ∃ (A34 : OA) (n35 c36 : Nat), v32 = .slice A34 n35 c36 ∧ Run Tryz.prog (Builtin.append_ #[24, 24] 24 #[(sv z26.1.1 z26.1.2.1 z26.1.2.2), (sv A34 n35 c36)]) w33 fun v37 w38 => ∃ (A39 : OA) (n40 c41 : Nat), v37 = .slice A39 n40 c41 ∧ next28 ((A39, n40, c41), (wrap .i64 (z26.2.1 + 1)), ()) w38)) (K (sv z26.1.1 z26.1.2.1 z26.1.2.2) w27)) ((A23, n24, c25), 0, ()) w22

def qbs.ann : Ann := (.seq .l (.seq .l (.seq (.seq .l (.one (.loop [(5, .sl), (6, .int .i64)] (.seq (.seq .l (.two .l .l)) (.seq (.one .l) .l))))) (.seq .l .l))))

theorem qbs.con {s0 : D.Cur} {g1_ c0_0 : Nat} {A0_0 : OA} {x1 : Int} {r : (List Int) × D.Cur} {w : World} (hp : M.qg0 s0 x1) (hr : r = M.qbs s0 x1) (O1 : Blk w g1_ 129 #[(sv A0_0 s0.b.length c0_0), (iv s0.i), (iv s0.h)]) (R0_0 : Row el5 w A0_0 s0.b) (hc0_0 : s0.b.length ≤ c0_0) (D0_0 : s0.b ≠ [] → ∀ g, InB A0_0 g → ¬ (fun k_ => k_ = g1_) g) :
    Cl 117 #[(.pointer (some (bx g1_))), (iv x1)] w (fun v_ w_ => ∃ (A0_ : OA) (c0_ : Nat), v_ = (sv A0_ r.1.length c0_) ∧ Own el3 w_ w.heap.size A0_ c0_ r.1 ∧ Blk w_ g1_ 129 #[(sv A0_0 r.2.b.length c0_0), (iv r.2.i), (iv r.2.h)] ∧ r.2.b = s0.b ∧ Chg (fun k_ => k_ = g1_) w w_) := by
 have H := wp.qbs.math s0 x1 hp
 have hB := Chg.refl (fun k_ => k_ = g1_) w
 refine begK mixed Tryz.f117 ann (vc (bx g1_) x1) ?_
 unfold vc
 unfold wp.qbs at H
 refine qap el3 ([] : List Int) (fun _ => by kernel_rfl) rfl (fun A21 w22 P3 e23 => ?_)
 have O1 := O1.ext e23
 have O3 := P3.mono hB.size
 have hB := hB.then e23
 obtain ⟨J54, ⟨m78, hJ77⟩, hS55⟩ := H
 refine ⟨fun m_ z_ w_ => ∃ (xs47 : List Int) (i50 i51 i52 : Int) (A48 : OA) (c49 : Nat), z_ = ((A48, xs47.length, c49), i50, ()) ∧ J54 m_ (xs47, i50, i51, i52, ()) ∧ Chg (fun k_ => k_ = g1_) w w_ ∧ Own el3 w_ w.heap.size A48 c49 xs47 ∧ Blk w_ g1_ 129 #[(sv A0_0 s0.b.length c0_0), (iv i51), (iv i52)], ⟨m78, ([] : List Int), 0, s0.i, s0.h, A21, 0, rfl, hJ77, hB, O3, O1⟩, ?_⟩
 rintro m53 _ w57 ⟨xs47, i50, i51, i52, A48, c49, rfl, hJ79, hB, O6, O1⟩
 have H := hS55 m53 _ hJ79
 clear hS55 hJ79
 try dsimp only at H ⊢
 refine brc H (fun h H => ?_) fun h H => ?_
 ·obtain ⟨hp60, H⟩ := H
  obtain ⟨r58, hr59, H⟩ := qad H
  refine (qbO.con hp60 hr59 O1 (R0_0.chgS hB D0_0) hc0_0 (fun hx_ => (fun g h_ hS_ => D0_0 hx_ g h_ hS_))).mono ?_
  rintro _ w61 ⟨rfl, Q1, hq63, e62⟩
  simp only [bC, wC, hq63] at Q1
  have O6 := O6.chgS e62 (qcg (O6.qa6 O1 (by decide)))
  have hB := hB.chg e62 (fun g h_ => Or.inr h_)
  refine ⟨r58.1, rfl, ?_⟩
  refine qap el3 ([r58.1] : List Int) (fun _ => by kernel_rfl) rfl (fun A64 w65 P7 e66 => ?_)
  have O1 := Q1.ext e66
  have O6 := O6.ext e66
  have O7 := P7.mono hB.size
  have hB := hB.then e66
  obtain ⟨hl71, H⟩ := H
  refine appO qdZ O6 O7.row hB.size hl71 (fun A67 c68 w69 P6 e70 => ?_)
  have O1 := O1.app e70 (O6.qa6 O1 (by decide))
  have hB := hB.app e70 (fun g h_ => Or.inl (O6.low g h_))
  have O6 := P6
  obtain ⟨m72, hm73, hJ74⟩ := H
  exact ⟨m72, hm73, _, _, _, _, A67, c68, rfl, hJ74, hB, O6, O1⟩
 cases hr.trans H.symm
 exact ⟨A48, c49, rfl, O6, O1, rfl, hB⟩
def qb7.vc (A0 : OA) (n0 c0 : Nat) (w : World) (K : VK) : Prop :=
  Cl 59 #[(sv A0 n0 c0)] w fun v21 w22 => (∃ (p23 : Addr), v21 = (.pointer (some p23)) ∧ Run Tryz.prog (Instr.buildSlice 24 0 #[]) w22 fun v24 w25 => ∃ (A26 : OA) (n27 c28 : Nat), v24 = .slice A26 n27 c28 ∧ qdA (σ := (OA × Nat × Nat) × Int × Unit) (fun z29 w30 next31 => qa1 (decide (z29.2.1 < 12)) (Cl 67 #[(.pointer (some p23)), (iv 10000)] w30 fun v32 w33 => (∃ (n34 : Int), v32 = (iv n34) ∧ Run Tryz.prog (Instr.buildSlice 24 1 #[(0, (iv n34))]) w33 fun v35 w36 => ∃ (A37 : OA) (n38 c39 : Nat), v35 = .slice A37 n38 c39 ∧ Run Tryz.prog (Builtin.append_ #[24, 24] 24 #[(sv z29.1.1 z29.1.2.1 z29.1.2.2), (sv A37 n38 c39)]) w36 fun v40 w41 => ∃ (A42 : OA) (n43 c44 : Nat), v40 = .slice A42 n43 c44 ∧ next31 ((A42, n43, c44), (wrap .i64 (z29.2.1 + 1)), ()) w41)) (K (sv z29.1.1 z29.1.2.1 z29.1.2.2) w30)) ((A26, n27, c28), 0, ()) w25)

def qb7.ann : Ann := (.seq .l (.seq .l (.seq .l (.seq (.seq .l (.one (.loop [(4, .sl), (5, .int .i64)] (.seq (.seq .l (.two .l .l)) (.seq (.one .l) .l))))) (.seq .l .l)))))

theorem qb7.con {xs0 r : List Int} {A0 : OA} {c0 : Nat} {w : World} (hp : M.qfi xs0) (hr : r = M.qb7 xs0) (R0 : Row el5 w A0 xs0) (hc0 : xs0.length ≤ c0) :
    Cl 27 #[(sv A0 xs0.length c0)] w (fun v_ w_ => ∃ (A0_ : OA) (c0_ : Nat), v_ = (sv A0_ r.length c0_) ∧ Own el3 w_ w.heap.size A0_ c0_ r ∧ Ext w w_) := by
 have H := wp.qb7.math xs0 hp
 have hB := Ext.refl w
 refine begK mixed Tryz.f27 ann (vc A0 xs0.length c0) ?_
 unfold vc
 unfold wp.qb7 at H
 obtain ⟨hp23, H⟩ := H
 obtain ⟨r21, hr22, H⟩ := qad H
 refine (qaK.con hp23 hr22 (R0.ext hB) hc0).mono ?_
 rintro _ w24 ⟨g2_, rfl, O2, hq26, L2, e25⟩
 simp only [bC, wC, hq26] at O2
 have L2 := Nat.le_trans hB.size L2
 have hB := qa5 hB e25
 refine ⟨(bx g2_), rfl, ?_⟩
 refine qap el3 ([] : List Int) (fun _ => by kernel_rfl) rfl (fun A27 w28 P3 e29 => ?_)
 have O2 := O2.ext e29
 have O3 := P3.mono hB.size
 have hB := qa5 hB e29
 obtain ⟨J60, ⟨m84, hJ83⟩, hS61⟩ := H
 refine ⟨fun m_ z_ w_ => ∃ (xs53 : List Int) (i56 i57 i58 : Int) (A54 : OA) (c55 : Nat), z_ = ((A54, xs53.length, c55), i56, ()) ∧ J60 m_ (xs53, i56, i57, i58, ()) ∧ Ext w w_ ∧ Own el3 w_ w.heap.size A54 c55 xs53 ∧ Blk w_ g2_ 129 #[(sv A0 xs0.length c0), (iv i57), (iv i58)], ⟨m84, ([] : List Int), 0, r21.i, r21.h, A27, 0, rfl, hJ83, hB, O3, O2⟩, ?_⟩
 rintro m59 _ w63 ⟨xs53, i56, i57, i58, A54, c55, rfl, hJ85, hB, O6, O2⟩
 have H := hS61 m59 _ hJ85
 clear hS61 hJ85
 try dsimp only at H ⊢
 refine brc H (fun h H => ?_) fun h H => ?_
 ·obtain ⟨hp66, H⟩ := H
  obtain ⟨r64, hr65, H⟩ := qad H
  refine (qa0.con hp66 hr65 O2 (R0.ext hB) hc0 (fun hx_ => (fun g h_ hS_ => Nat.not_le.2 (R0.old hx_ g h_) (qfS L2 _ hS_)))).mono ?_
  rintro _ w67 ⟨rfl, Q2, hq69, e68⟩
  simp only [bC, wC, hq69] at Q2
  have O6 := O6.chgS e68 (qcg (O6.qa6 O2 (by decide)))
  have hB := Chg.ext hB e68 (qfS L2)
  refine ⟨r64.1, rfl, ?_⟩
  refine qap el3 ([r64.1] : List Int) (fun _ => by kernel_rfl) rfl (fun A70 w71 P7 e72 => ?_)
  have O2 := Q2.ext e72
  have O6 := O6.ext e72
  have O7 := P7.mono hB.size
  have hB := qa5 hB e72
  obtain ⟨hl77, H⟩ := H
  refine appO qdZ O6 O7.row hB.size hl77 (fun A73 c74 w75 P6 e76 => ?_)
  have O2 := O2.app e76 (O6.qa6 O2 (by decide))
  have hB := eapp hB e76 O6
  have O6 := P6
  obtain ⟨m78, hm79, hJ80⟩ := H
  exact ⟨m78, hm79, _, _, _, _, A73, c74, rfl, hJ80, hB, O6, O2⟩
 cases hr.trans H.symm
 exact ⟨A54, c55, rfl, O6, hB⟩
def qf8.vc (A0 : OA) (n0 c0 : Nat) (w : World) (K : VK) : Prop :=
  K (.bool (decide (((n0 : Nat) : Int) > 1048576))) w

def qf8.ann : Ann := (.seq .l (.seq .l .l))

theorem qf8.con {xs0 : List Int} {A0 : OA} {c0 : Nat} {r : Bool} {w : World} (hr : r = M.qf8 xs0) (R0 : Row el5 w A0 xs0) (hc0 : xs0.length ≤ c0) :
    Cl 18 #[(sv A0 xs0.length c0)] w (fun v_ w_ => v_ = (.bool r) ∧ Ext w w_) := by
 have H := wp.qf8.math xs0
 have hB := Ext.refl w
 refine begK mixed Tryz.f18 ann (vc A0 xs0.length c0) ?_
 unfold vc
 unfold wp.qf8 at H
 cases hr.trans H.symm
 exact ⟨rfl, hB⟩
def qbL.vc (x0 : Int) (w : World) (K : VK) : Prop :=
  Cl 78 #[(iv x0), (iv 1), (iv 3)] w fun v21 w22 => (∃ (b23 : Bool), v21 = (.bool b23) ∧ K (.bool b23) w22)

def qbL.ann : Ann := (.seq .l (.seq .l .l))

theorem qbL.con {x0 : Int} {r : Bool} {w : World} (hr : r = M.qbL x0)  :
    Cl 76 #[(iv x0)] w (fun v_ w_ => v_ = (.bool r) ∧ Ext w w_) := by
 have H := wp.qbL.math x0
 refine begK mixed Tryz.f76 ann (vc x0) ?_
 unfold vc
 unfold wp.qbL at H
 obtain ⟨r21, hr22, H⟩ := qad H
 refine (qar.con hr22 ).mono ?_
 rintro _ w24 ⟨rfl, e25⟩
 have hB := qa5 (Ext.refl w) e25
 refine ⟨r21, rfl, ?_⟩
 cases hr.trans H.symm
 exact ⟨rfl, hB⟩
def qbf.vc (A0 : OA) (n0 c0 : Nat) (w : World) (K : VK) : Prop :=
  qa1 (((n0 : Nat) : Int) == 32) (Cl 136 #[(sv A0 n0 c0)] w fun v21 w22 => (∃ (b23 : Bool), v21 = (.bool b23) ∧ K (.bool b23) w22)) (K (.bool false) w)

def qbf.ann : Ann := (.seq .l (.seq .l .l))

theorem qbf.con {xs0 : List Int} {A0 : OA} {c0 : Nat} {r : Bool} {w : World} (hp : M.qfX xs0) (hr : r = M.qbf xs0) (R0 : Row el3 w A0 xs0) (hc0 : xs0.length ≤ c0) :
    Cl 77 #[(sv A0 xs0.length c0)] w (fun v_ w_ => v_ = (.bool r) ∧ Ext w w_) := by
 have H := wp.qbf.math xs0 hp
 have hB := Ext.refl w
 refine begK mixed Tryz.f77 ann (vc A0 xs0.length c0) ?_
 unfold vc
 unfold wp.qbf at H
 refine brc H (fun h H => ?_) fun h H => ?_
 ·obtain ⟨hp23, H⟩ := H
  obtain ⟨r21, hr22, H⟩ := qad H
  refine (qbT.con hp23 hr22 (R0.ext hB) hc0).mono ?_
  rintro _ w24 ⟨rfl, e25⟩
  have hB := qa5 hB e25
  refine ⟨r21, rfl, ?_⟩
  cases hr.trans H.symm
  exact ⟨rfl, hB⟩
 cases hr.trans H.symm
 exact ⟨rfl, hB⟩
def qc9.vc (A0 : OA) (n0 c0 : Nat) (w : World) (K : VK) : Prop :=
  K (.bool (((n0 : Nat) : Int) == 32)) w

def qc9.ann : Ann := (.seq .l (.seq .l .l))

theorem qc9.con {xs0 : List Int} {A0 : OA} {c0 : Nat} {r : Bool} {w : World} (hr : r = M.qc9 xs0) (R0 : Row el3 w A0 xs0) (hc0 : xs0.length ≤ c0) :
    Cl 138 #[(sv A0 xs0.length c0)] w (fun v_ w_ => v_ = (.bool r) ∧ Ext w w_) := by
 have H := wp.qc9.math xs0
 have hB := Ext.refl w
 refine begK mixed Tryz.f138 ann (vc A0 xs0.length c0) ?_
 unfold vc
 unfold wp.qc9 at H
 cases hr.trans H.symm
 exact ⟨rfl, hB⟩
def qbU.vc (A0 : OA) (n0 c0 : Nat) (x1 : Int) (w : World) (K : VK) : Prop :=
  qdA (σ := Int × Unit) (fun z21 w22 next23 => qa1 (decide (z21.1 < ((n0 : Nat) : Int))) ((idx z21.1 n0 A0 fun a24 => ldI w22 ((a24.add ((z21.1.toNat) * 3)).add 0) fun n25 => ldI w22 ((a24.add ((z21.1.toNat) * 3)).add 1) fun n26 => ldI w22 ((a24.add ((z21.1.toNat) * 3)).add 2) fun n27 => newK w22 (.cells #[(iv 0), (iv 0), (iv 0)] 91) fun g28 w29 => qa7 (bx g28) [(iv n25), (iv n26), (iv n27)] 0 w29 fun w30 => ldI w30 (((bx g28).add 0).add 0) fun n31 => Cl 78 #[(iv n31), (iv 0), (iv x1)] w30 fun v32 w33 => (∃ (b34 : Bool), v32 = (.bool b34) ∧ qa1 (!b34) (K (.bool false) w33) (ldI w33 (((bx g28).add 1).add 0) fun n35 => Cl 78 #[(iv n35), (iv 0), (iv x1)] w33 fun v36 w37 => (∃ (b38 : Bool), v36 = (.bool b38) ∧ qa1 (!b38) (K (.bool false) w37) (ldI w37 (((bx g28).add 2).add 0) fun n39 => Cl 179 #[(iv n39)] w37 fun v40 w41 => (∃ (b42 : Bool), v40 = (.bool b42) ∧ qa1 (!b42) (K (.bool false) w41) (ldI w41 (((bx g28).add 2).add 0) fun n43 => qa1 (n43 == 0) (K (.bool false) w41) (next23 ((wrap .i64 (z21.1 + 1)), ()) w41))))))))) (qa1 (((n0 : Nat) : Int) == 0) (K (.bool true) w22) ((idx (wrap .i64 (((n0 : Nat) : Int) - 1)) n0 A0 fun a44 => ldI w22 ((a44.add (((wrap .i64 (((n0 : Nat) : Int) - 1)).toNat) * 3)).add 0) fun n45 => ldI w22 ((a44.add (((wrap .i64 (((n0 : Nat) : Int) - 1)).toNat) * 3)).add 1) fun n46 => ldI w22 ((a44.add (((wrap .i64 (((n0 : Nat) : Int) - 1)).toNat) * 3)).add 2) fun n47 => newK w22 (.cells #[(iv 0), (iv 0), (iv 0)] 91) fun g48 w49 => qa7 (bx g48) [(iv n45), (iv n46), (iv n47)] 0 w49 fun w50 => qa1 (decide (((n0 : Nat) : Int) ≤ 24)) (ldI w50 (((bx g48).add 0).add 0) fun n51 => ldI w50 (((bx g48).add 1).add 0) fun n52 => qa1 (n51 != n52) (ldI w50 (((bx g48).add 0).add 0) fun n53 => qa1 (n53 != x1) ((idx 0 n0 A0 fun a54 => ldI w50 (((a54.add (((0 : Int).toNat) * 3)).add 1).add 0) fun n55 => qa1 (n55 == x1) ((idx 0 n0 A0 fun a56 => ldI w50 (((a56.add (((0 : Int).toNat) * 3)).add 2).add 0) fun n57 => K (.bool (n57 == 255)) w50)) (K (.bool false) w50))) (K (.bool false) w50)) (K (.bool false) w50)) (K (.bool false) w50))))) (0, ()) w

def qbU.ann : Ann := (.seq .l (.seq (.seq .l (.one (.loop [(10, .int .i64)] (.seq .l (.seq (.two .l .l) (.seq (.one (.seq .l (.seq .l (.two (.seq .l .l) .l)))) .l)))))) (.seq (.seq .l (.two (.seq .l .l) .l)) (.seq .l (.seq .l .l)))))

theorem qbU.con {xs0 : List D.Frame} {A0 : OA} {c0 : Nat} {x1 : Int} {r : Bool} {w : World} (hp : M.qfv xs0 x1) (hr : r = M.qbU xs0 x1) (R0 : Row el91 w A0 xs0) (hc0 : xs0.length ≤ c0) :
    Cl 139 #[(sv A0 xs0.length c0), (iv x1)] w (fun v_ w_ => v_ = (.bool r) ∧ Ext w w_) := by
 have H := wp.qbU.math xs0 x1 hp
 have hB := Ext.refl w
 refine begK mixed Tryz.f139 ann (vc A0 xs0.length c0 x1) ?_
 unfold vc
 unfold wp.qbU at H
 obtain ⟨J23, ⟨m85, hJ84⟩, hS24⟩ := H
 refine ⟨fun m_ z_ w_ => ∃ (i21 : Int), z_ = (i21, ()) ∧ J23 m_ (i21, ()) ∧ Ext w w_, ⟨m85, 0, rfl, hJ84, hB⟩, ?_⟩
 rintro m22 _ w26 ⟨i21, rfl, hJ86, hB⟩
 have H := hS24 m22 _ hJ86
 clear hS24 hJ86
 try dsimp only at H ⊢
 refine brc H (fun h H => ?_) fun h H => ?_
 ·obtain ⟨⟨h0_30, h1_31⟩, H⟩ := H
  obtain ⟨a28, ha29, hat27⟩ := Row.at (R0.ext hB) h0_30 h1_31
  refine ⟨h0_30, h1_31, a28, ha29, _, (hat27 0 _ rfl), _, (hat27 1 _ rfl), _, (hat27 2 _ rfl), ?_⟩
  refine qiV #[(iv ((rd xs0 i21).Pc)), (iv ((rd xs0 i21).Stop)), (iv ((rd xs0 i21).Mask))] (fun g2_ w34 L2 O2 e35 => ?_)
  refine ⟨_, (O2.a 0), ?_⟩
  obtain ⟨r36, hr37, H⟩ := qad H
  refine (qar.con hr37 ).mono ?_
  rintro _ w39 ⟨rfl, e40⟩
  have O2 := O2.ext e40
  have hB := qa5 (qa5 hB e35) e40
  refine ⟨r36, rfl, ?_⟩
  refine brc H (fun h H => ?_) fun h H => ?_
  ·cases hr.trans H.symm
   exact ⟨rfl, hB⟩
  refine ⟨_, (O2.a 1), ?_⟩
  obtain ⟨r41, hr42, H⟩ := qad H
  refine (qar.con hr42 ).mono ?_
  rintro _ w44 ⟨rfl, e45⟩
  have O2 := O2.ext e45
  have hB := qa5 hB e45
  refine ⟨r41, rfl, ?_⟩
  refine brc H (fun h H => ?_) fun h H => ?_
  ·cases hr.trans H.symm
   exact ⟨rfl, hB⟩
  refine ⟨_, (O2.a 2), ?_⟩
  obtain ⟨r46, hr47, H⟩ := qad H
  refine (qdf.con hr47 ).mono ?_
  rintro _ w49 ⟨rfl, e50⟩
  have O2 := O2.ext e50
  have hB := qa5 hB e50
  refine ⟨r46, rfl, ?_⟩
  refine brc H (fun h H => ?_) fun h H => ?_
  ·cases hr.trans H.symm
   exact ⟨rfl, hB⟩
  refine ⟨_, (O2.a 2), ?_⟩
  refine brc H (fun h H => ?_) fun h H => ?_
  ·cases hr.trans H.symm
   exact ⟨rfl, hB⟩
  obtain ⟨m51, hm52, hJ53⟩ := H
  exact ⟨m51, hm52, _, rfl, hJ53, hB⟩
 refine brc H (fun h H => ?_) fun h H => ?_
 ·cases hr.trans H.symm
  exact ⟨rfl, hB⟩
 obtain ⟨⟨h0_61, h1_62⟩, H⟩ := H
 obtain ⟨a59, ha60, hat58⟩ := Row.at (R0.ext hB) h0_61 h1_62
 refine ⟨h0_61, h1_62, a59, ha60, _, (hat58 0 _ rfl), _, (hat58 1 _ rfl), _, (hat58 2 _ rfl), ?_⟩
 refine qiV #[(iv ((rd xs0 (wrap .i64 ((xs0.length : Int) - 1))).Pc)), (iv ((rd xs0 (wrap .i64 ((xs0.length : Int) - 1))).Stop)), (iv ((rd xs0 (wrap .i64 ((xs0.length : Int) - 1))).Mask))] (fun g3_ w65 L3 O3 e66 => ?_)
 have hB := qa5 hB e66
 refine brc H (fun h H => ?_) fun h H => ?_
 ·refine ⟨_, (O3.a 0), _, (O3.a 1), ?_⟩
  refine brc H (fun h H => ?_) fun h H => ?_
  ·refine ⟨_, (O3.a 0), ?_⟩
   refine brc H (fun h H => ?_) fun h H => ?_
   ·obtain ⟨⟨h0_70, h1_71⟩, H⟩ := H
    obtain ⟨a68, ha69, hat67⟩ := Row.at (R0.ext hB) h0_70 h1_71
    refine ⟨h0_70, h1_71, a68, ha69, _, (hat67 1 _ rfl), ?_⟩
    refine brc H (fun h H => ?_) fun h H => ?_
    ·obtain ⟨⟨h0_75, h1_76⟩, H⟩ := H
     obtain ⟨a73, ha74, hat72⟩ := Row.at (R0.ext hB) h0_75 h1_76
     refine ⟨h0_75, h1_76, a73, ha74, _, (hat72 2 _ rfl), ?_⟩
     cases hr.trans H.symm
     exact ⟨rfl, hB⟩
    cases hr.trans H.symm
    exact ⟨rfl, hB⟩
   cases hr.trans H.symm
   exact ⟨rfl, hB⟩
  cases hr.trans H.symm
  exact ⟨rfl, hB⟩
 cases hr.trans H.symm
 exact ⟨rfl, hB⟩
def qcH.vc (A0 : OA) (n0 c0 : Nat) (x1_0 : Int) (A1_1 : OA) (n1_1 c1_1 : Nat) (A1_2 : OA) (n1_2 c1_2 : Nat) (w : World) (K : VK) : Prop :=
  newK w (.cells #[(iv x1_0), (sv A1_1 n1_1 c1_1), (sv A1_2 n1_2 c1_2)] 52) fun g21 w22 => ldI w22 (((bx g21).add 0).add 0) fun n23 => Cl 137 #[(iv n23)] w22 fun v24 w25 => (∃ (b26 : Bool), v24 = (.bool b26) ∧ qa1 b26 (ldS w25 (((bx g21).add 2).add 0) fun A27 n28 c29 => Cl 138 #[(sv A27 n28 c29)] w25 fun v30 w31 => (∃ (b32 : Bool), v30 = (.bool b32) ∧ qa1 b32 (ldS w31 (((bx g21).add 2).add 0) fun A33 n34 c35 => Cl 136 #[(sv A33 n34 c35)] w31 fun v36 w37 => (∃ (b38 : Bool), v36 = (.bool b38) ∧ qa1 b38 (ldS w37 (((bx g21).add 1).add 0) fun A39 n40 c41 => Cl 139 #[(sv A39 n40 c41), (iv ((n0 : Nat) : Int))] w37 fun v42 w43 => (∃ (b44 : Bool), v42 = (.bool b44) ∧ K (.bool b44) w43)) (K (.bool false) w37))) (K (.bool false) w31))) (K (.bool false) w25))

def qcH.ann : Ann := (.seq .l (.seq .l .l))

theorem qcH.con {xs0 : List D.Ins} {A0 A1_1 A1_2 : OA} {c0 c1_1 c1_2 : Nat} {s1 : D.Warp} {r : Bool} {w : World} (hp : M.qfQ xs0 s1) (hr : r = M.qcH xs0 s1) (R0 : Row el84 w A0 xs0) (hc0 : xs0.length ≤ c0) (R1_1 : Row el91 w A1_1 s1.Frames) (hc1_1 : s1.Frames.length ≤ c1_1) (R1_2 : Row el3 w A1_2 s1.Regs) (hc1_2 : s1.Regs.length ≤ c1_2) :
    Cl 79 #[(sv A0 xs0.length c0), (.agg (wC A1_1 c1_1 A1_2 c1_2 s1))] w (fun v_ w_ => v_ = (.bool r) ∧ Ext w w_) := by
 have H := wp.qcH.math xs0 s1 hp
 refine begK mixed Tryz.f79 ann (vc A0 xs0.length c0 s1.Number A1_1 s1.Frames.length c1_1 A1_2 s1.Regs.length c1_2) ?_
 unfold vc
 unfold wp.qcH at H
 refine qax (fun g4_ w21 L4 O4 e22 => ?_)
 refine ⟨_, (O4.a 0), ?_⟩
 obtain ⟨r23, hr24, H⟩ := qad H
 refine (qbx.con hr24 ).mono ?_
 rintro _ w26 ⟨rfl, e27⟩
 have O4 := O4.ext e27
 have hB := qa5 (qa5 (Ext.refl w) e22) e27
 refine ⟨r23, rfl, ?_⟩
 refine brc H (fun h H => ?_) fun h H => ?_
 ·refine ⟨_, _, _, (O4.a 2), ?_⟩
  obtain ⟨r28, hr29, H⟩ := qad H
  refine (qc9.con hr29 (R1_2.ext hB) hc1_2).mono ?_
  rintro _ w31 ⟨rfl, e32⟩
  have O4 := O4.ext e32
  have hB := qa5 hB e32
  refine ⟨r28, rfl, ?_⟩
  refine brc H (fun h H => ?_) fun h H => ?_
  ·refine ⟨_, _, _, (O4.a 2), ?_⟩
   obtain ⟨hp35, H⟩ := H
   obtain ⟨r33, hr34, H⟩ := qad H
   refine (qbT.con hp35 hr34 (R1_2.ext hB) hc1_2).mono ?_
   rintro _ w36 ⟨rfl, e37⟩
   have O4 := O4.ext e37
   have hB := qa5 hB e37
   refine ⟨r33, rfl, ?_⟩
   refine brc H (fun h H => ?_) fun h H => ?_
   ·refine ⟨_, _, _, (O4.a 1), ?_⟩
    obtain ⟨hp40, H⟩ := H
    obtain ⟨r38, hr39, H⟩ := qad H
    refine (qbU.con hp40 hr39 (R1_1.ext hB) hc1_1).mono ?_
    rintro _ w41 ⟨rfl, e42⟩
    have hB := qa5 hB e42
    refine ⟨r38, rfl, ?_⟩
    cases hr.trans H.symm
    exact ⟨rfl, hB⟩
   cases hr.trans H.symm
   exact ⟨rfl, hB⟩
  cases hr.trans H.symm
  exact ⟨rfl, hB⟩
 cases hr.trans H.symm
 exact ⟨rfl, hB⟩
def qbl.vc (A0_0 : OA) (n0_0 c0_0 : Nat) (A0_1 : OA) (n0_1 c0_1 : Nat) (A0_2 : OA) (n0_2 c0_2 : Nat) (x0_3 x0_4 : Int) (w : World) (K : VK) : Prop :=
  newK w (.cells (vB A0_0 n0_0 c0_0 A0_1 n0_1 c0_1 A0_2 n0_2 c0_2 x0_3 x0_4) 33) fun g21 w22 => (∃ M24 : Nat → Prop, ldSM M24 w22 ((bx g21).add 0) 0 fun A25 n26 c27 => Cl 75 #[(sv A25 n26 c27)] w22.drew fun v28 w29 => (∃ (b30 : Bool), v28 = (.bool b30) ∧ qac M24 w22 w29 ∧ qa1 (!b30) (K (.bool false) w29) (ldSM M24 w22 ((bx g21).add 1) 0 fun A31 n32 c33 => Cl 76 #[(iv ((n32 : Nat) : Int))] w29 fun v34 w35 => (∃ (b36 : Bool), v34 = (.bool b36) ∧ qac M24 w22 w35 ∧ qa1 (!b36) (K (.bool false) w35) (ldSM M24 w22 ((bx g21).add 2) 0 fun A37 n38 c39 => Cl 77 #[(sv A37 n38 c39)] w35 fun v40 w41 => (∃ (b42 : Bool), v40 = (.bool b42) ∧ qac M24 w22 w41 ∧ qa1 (!b42) (K (.bool false) w41) (ldIM M24 w22 ((bx g21).add 3) 0 fun n43 => ldSM M24 w22 ((bx g21).add 1) 0 fun A44 n45 c46 => ((0 : Int) ≤ ((n45 : Nat) : Int) ∧ Cl 78 #[(iv n43), (iv 0), (iv (wrap .i64 ((wrap .i64 (1 * 2 ^ (min (((n45 : Nat) : Int).toNat) (IntKind.bits .i64)))) - 2)))] w41 fun v47 w48 => (∃ (b49 : Bool), v47 = (.bool b49) ∧ qac M24 w22 w48 ∧ qa1 (!b49) (K (.bool false) w48) (ldIM M24 w22 ((bx g21).add 4) 0 fun n50 => Cl 78 #[(iv n50), (iv 0), (iv 100000)] w48 fun v51 w52 => (∃ (b53 : Bool), v51 = (.bool b53) ∧ qac M24 w22 w52 ∧ qa1 (!b53) (K (.bool false) w52) (ldS w52 (((bx g21).add 1).add 0) fun A54 n55 c56 => qdA (σ := Int × Unit) (fun z57 w58 next59 => qa1 (decide (z57.1 < ((n55 : Nat) : Int))) ((idx z57.1 n55 A54 fun a60 => ldI w58 ((a60.add ((z57.1.toNat) * 3)).add 0) fun n61 => ldS w58 ((a60.add ((z57.1.toNat) * 3)).add 1) fun A62 n63 c64 => ldS w58 ((a60.add ((z57.1.toNat) * 3)).add 2) fun A65 n66 c67 => newK w58 (.cells #[(iv 0), (sv none 0 0), (sv none 0 0)] 52) fun g68 w69 => qa7 (bx g68) [(iv n61), (sv A62 n63 c64), (sv A65 n66 c67)] 0 w69 fun w70 => ldI w70 (((bx g68).add 0).add 0) fun n71 => qa1 (n71 != z57.1) (K (.bool false) w70) (ldS w70 (((bx g21).add 0).add 0) fun A72 n73 c74 => ldI w70 ((bx g68).add 0) fun n75 => ldS w70 ((bx g68).add 1) fun A76 n77 c78 => ldS w70 ((bx g68).add 2) fun A79 n80 c81 => Cl 79 #[(sv A72 n73 c74), (.agg #[(iv n75), (sv A76 n77 c78), (sv A79 n80 c81)])] w70 fun v82 w83 => (∃ (b84 : Bool), v82 = (.bool b84) ∧ qa1 (!b84) (K (.bool false) w83) (next59 ((wrap .i64 (z57.1 + 1)), ()) w83))))) (K (.bool true) w58)) (0, ()) w52))))))))))))

def qbl.ann : Ann := (.seq .l (.seq (.seq .l (.two (.seq .l .l) .l)) (.seq (.seq .l (.one (.loop [(42, .int .i64)] (.seq .l (.seq (.two .l .l) (.seq (.one (.seq .l (.seq .l (.two (.seq .l .l) .l)))) .l)))))) (.seq .l .l))))

theorem qbl.con {s0 : D.Block} {A0_0 A0_1 A0_2 : OA} {c0_0 c0_1 c0_2 : Nat} {r : Bool} {w : World} (hp : M.qdR s0) (hr : r = M.qbl s0) (R0_0 : Row el84 w A0_0 s0.Code) (hc0_0 : s0.Code.length ≤ c0_0) (R0_1 : RowW 52 el91 el3 w A0_1 s0.Warps) (hc0_1 : s0.Warps.length ≤ c0_1) (R0_2 : Row el3 w A0_2 s0.Memory) (hc0_2 : s0.Memory.length ≤ c0_2) :
    Cl 32 #[(.agg (bC A0_0 c0_0 A0_1 c0_1 A0_2 c0_2 s0))] w (fun v_ w_ => v_ = (.bool r) ∧ Ext w w_) := by
 have H := wp.qbl.math s0 hp
 refine begK mixed Tryz.f32 ann (vc A0_0 s0.Code.length c0_0 A0_1 s0.Warps.length c0_1 A0_2 s0.Memory.length c0_2 s0.Waiting s0.Phase) ?_
 unfold vc
 unfold wp.qbl at H
 refine qax (fun g4_ w21 L4 O4 e22 => ?_)
 have hB := qa5 (Ext.refl w) e22
 refine ⟨(fun _ => False), ?_⟩
 have hBz := hB
 have Z4 := O4
 refine ⟨_, _, _, noM (O4.a 0), ?_⟩
 have O4 := O4.ext (Ext.drew _)
 have hB := qa5 hB (Ext.drew _)
 have hS23 := (Chg.refl (fun _ => False) w21).then (Ext.drew _)
 obtain ⟨hp31, H⟩ := H
 obtain ⟨r29, hr30, H⟩ := qad H
 refine (qbe.con hp31 hr30 (R0_0.ext hB) hc0_0).mono ?_
 rintro _ w32 ⟨rfl, e33⟩
 have O4 := O4.ext e33
 have hB := qa5 hB e33
 have hS23 := hS23.then e33
 refine ⟨r29, rfl, qa2 hS23, ?_⟩
 refine brc H (fun h H => ?_) fun h H => ?_
 ·cases hr.trans H.symm
  exact ⟨rfl, hB⟩
 refine ⟨_, _, _, ⟨(fun h_ => h_), (Z4.at 1 rfl rfl)⟩, ?_⟩
 obtain ⟨r34, hr35, H⟩ := qad H
 refine (qbL.con hr35 ).mono ?_
 rintro _ w37 ⟨rfl, e38⟩
 have O4 := O4.ext e38
 have hB := qa5 hB e38
 have hS23 := hS23.then e38
 refine ⟨r34, rfl, qa2 hS23, ?_⟩
 refine brc H (fun h H => ?_) fun h H => ?_
 ·cases hr.trans H.symm
  exact ⟨rfl, hB⟩
 refine ⟨_, _, _, ⟨(fun h_ => h_), (Z4.at 2 rfl rfl)⟩, ?_⟩
 obtain ⟨hp41, H⟩ := H
 obtain ⟨r39, hr40, H⟩ := qad H
 refine (qbf.con hp41 hr40 (R0_2.ext hB) hc0_2).mono ?_
 rintro _ w42 ⟨rfl, e43⟩
 have O4 := O4.ext e43
 have hB := qa5 hB e43
 have hS23 := hS23.then e43
 refine ⟨r39, rfl, qa2 hS23, ?_⟩
 refine brc H (fun h H => ?_) fun h H => ?_
 ·cases hr.trans H.symm
  exact ⟨rfl, hB⟩
 refine ⟨_, ⟨(fun h_ => h_), (Z4.at 3 rfl rfl)⟩, _, _, _, ⟨(fun h_ => h_), (Z4.at 1 rfl rfl)⟩, ?_⟩
 obtain ⟨hc44, H⟩ := H
 refine ⟨hc44, ?_⟩
 obtain ⟨r45, hr46, H⟩ := qad H
 refine (qar.con hr46 ).mono ?_
 rintro _ w48 ⟨rfl, e49⟩
 have O4 := O4.ext e49
 have hB := qa5 hB e49
 have hS23 := hS23.then e49
 refine ⟨r45, rfl, qa2 hS23, ?_⟩
 refine brc H (fun h H => ?_) fun h H => ?_
 ·cases hr.trans H.symm
  exact ⟨rfl, hB⟩
 refine ⟨_, ⟨(fun h_ => h_), (Z4.at 4 rfl rfl)⟩, ?_⟩
 obtain ⟨r50, hr51, H⟩ := qad H
 refine (qar.con hr51 ).mono ?_
 rintro _ w53 ⟨rfl, e54⟩
 have O4 := O4.ext e54
 have hB := qa5 hB e54
 have hS23 := hS23.then e54
 refine ⟨r50, rfl, qa2 hS23, ?_⟩
 refine brc H (fun h H => ?_) fun h H => ?_
 ·cases hr.trans H.symm
  exact ⟨rfl, hB⟩
 refine ⟨_, _, _, (O4.a 1), ?_⟩
 obtain ⟨J57, ⟨m94, hJ93⟩, hS58⟩ := H
 refine ⟨fun m_ z_ w_ => ∃ (i55 : Int), z_ = (i55, ()) ∧ J57 m_ (i55, ()) ∧ Ext w w_ ∧ Blk w_ g4_ 33 (bC A0_0 c0_0 A0_1 c0_1 A0_2 c0_2 s0), ⟨m94, 0, rfl, hJ93, hB, O4⟩, ?_⟩
 rintro m56 _ w60 ⟨i55, rfl, hJ95, hB, O4⟩
 have H := hS58 m56 _ hJ95
 clear hS58 hJ95
 try dsimp only at H ⊢
 refine brc H (fun h H => ?_) fun h H => ?_
 ·obtain ⟨⟨h0_64, h1_65⟩, H⟩ := H
  obtain ⟨a62, ha63, A69, c70, A71, c72, f66, f67, f68, R73, hle75, R74, hle76⟩ := RowW.at R0_1 h0_64 h1_65
  refine ⟨h0_64, h1_65, a62, ha63, _, (Ext.cell hB f66), _, _, _, (Ext.cell hB f67), _, _, _, (Ext.cell hB f68), ?_⟩
  refine qiV #[(iv ((rd s0.Warps i55).Number)), (sv A69 ((rd s0.Warps i55).Frames.length) c70), (sv A71 ((rd s0.Warps i55).Regs.length) c72)] (fun g7_ w79 L7 O7 e80 => ?_)
  have O4 := O4.ext e80
  have hB := qa5 hB e80
  refine ⟨_, (O7.a 0), ?_⟩
  refine brc H (fun h H => ?_) fun h H => ?_
  ·cases hr.trans H.symm
   exact ⟨rfl, hB⟩
  refine ⟨_, _, _, (O4.a 0), _, (O7.a 0), _, _, _, (O7.a 1), _, _, _, (O7.a 2), ?_⟩
  obtain ⟨hp83, H⟩ := H
  obtain ⟨r81, hr82, H⟩ := qad H
  refine (cllA (qcH.con hp83 hr82 (R0_0.ext hB) hc0_0 (R73.ext hB) hle75 (R74.ext hB) hle76)).mono ?_
  rintro _ w84 ⟨rfl, e85⟩
  have O4 := O4.ext e85
  have hB := qa5 hB e85
  refine ⟨r81, rfl, ?_⟩
  refine brc H (fun h H => ?_) fun h H => ?_
  ·cases hr.trans H.symm
   exact ⟨rfl, hB⟩
  obtain ⟨m86, hm87, hJ88⟩ := H
  exact ⟨m86, hm87, _, rfl, hJ88, hB, O4⟩
 cases hr.trans H.symm
 exact ⟨rfl, hB⟩
def qdl.vc (A0_0 : OA) (n0_0 c0_0 : Nat) (A0_1 : OA) (n0_1 c0_1 : Nat) (A0_2 : OA) (n0_2 c0_2 : Nat) (x0_3 x0_4 x1 : Int) (w : World) (K : VK) : Prop :=
  newK w (.cells (vB A0_0 n0_0 c0_0 A0_1 n0_1 c0_1 A0_2 n0_2 c0_2 x0_3 x0_4) 33) fun g21 w22 => ldB w22 (bx g21) fun A23 n24 c25 A26 n27 c28 A29 n30 c31 n32 n33 => Cl 32 #[(.agg (vB A23 n24 c25 A26 n27 c28 A29 n30 c31 n32 n33))] w22 fun v34 w35 => (∃ (b36 : Bool), v34 = (.bool b36) ∧ qa1 b36 (ldS w35 (((bx g21).add 1).add 0) fun A37 n38 c39 => Cl 78 #[(iv x1), (iv 0), (iv (wrap .i64 (((n38 : Nat) : Int) - 1)))] w35 fun v40 w41 => (∃ (b42 : Bool), v40 = (.bool b42) ∧ K (.bool b42) w41)) (K (.bool false) w35))

def qdl.ann : Ann := (.seq .l (.seq .l .l))

theorem qdl.con {s0 : D.Block} {A0_0 A0_1 A0_2 : OA} {c0_0 c0_1 c0_2 : Nat} {x1 : Int} {r : Bool} {w : World} (hp : M.qgo s0 x1) (hr : r = M.qdl s0 x1) (R0_0 : Row el84 w A0_0 s0.Code) (hc0_0 : s0.Code.length ≤ c0_0) (R0_1 : RowW 52 el91 el3 w A0_1 s0.Warps) (hc0_1 : s0.Warps.length ≤ c0_1) (R0_2 : Row el3 w A0_2 s0.Memory) (hc0_2 : s0.Memory.length ≤ c0_2) :
    Cl 62 #[(.agg (bC A0_0 c0_0 A0_1 c0_1 A0_2 c0_2 s0)), (iv x1)] w (fun v_ w_ => v_ = (.bool r) ∧ Ext w w_) := by
 have H := wp.qdl.math s0 x1 hp
 refine begK mixed Tryz.f62 ann (vc A0_0 s0.Code.length c0_0 A0_1 s0.Warps.length c0_1 A0_2 s0.Memory.length c0_2 s0.Waiting s0.Phase x1) ?_
 unfold vc
 unfold wp.qdl at H
 refine qax (fun g4_ w21 L4 O4 e22 => ?_)
 have hB := qa5 (Ext.refl w) e22
 refine ⟨_, _, _, (O4.a 0), _, _, _, (O4.a 1), _, _, _, (O4.a 2), _, (O4.a 3), _, (O4.a 4), ?_⟩
 obtain ⟨hp25, H⟩ := H
 obtain ⟨r23, hr24, H⟩ := qad H
 refine (qbl.con hp25 hr24 (R0_0.ext hB) hc0_0 (R0_1.ext hB) hc0_1 (R0_2.ext hB) hc0_2).mono ?_
 rintro _ w26 ⟨rfl, e27⟩
 have O4 := O4.ext e27
 have hB := qa5 hB e27
 refine ⟨r23, rfl, ?_⟩
 refine brc H (fun h H => ?_) fun h H => ?_
 ·refine ⟨_, _, _, (O4.a 1), ?_⟩
  obtain ⟨r28, hr29, H⟩ := qad H
  refine (qar.con hr29 ).mono ?_
  rintro _ w31 ⟨rfl, e32⟩
  have hB := qa5 hB e32
  refine ⟨r28, rfl, ?_⟩
  cases hr.trans H.symm
  exact ⟨rfl, hB⟩
 cases hr.trans H.symm
 exact ⟨rfl, hB⟩
def qbB.vc (A0_0 : OA) (n0_0 c0_0 : Nat) (A0_1 : OA) (n0_1 c0_1 : Nat) (A0_2 : OA) (n0_2 c0_2 : Nat) (x0_3 x0_4 x1 : Int) (w : World) (K : VK) : Prop :=
  newK w (.cells (vB A0_0 n0_0 c0_0 A0_1 n0_1 c0_1 A0_2 n0_2 c0_2 x0_3 x0_4) 33) fun g21 w22 => ldI w22 (((bx g21).add 3).add 0) fun n23 => ((0 : Int) ≤ x1 ∧ K (.bool ((qdH .i64 (Int.fdiv n23 (2 ^ (min (x1.toNat) (IntKind.bits .i64)))) 1) == 1)) w22)

def qbB.ann : Ann := (.seq .l (.seq .l .l))

theorem qbB.con {s0 : D.Block} {A0_0 A0_1 A0_2 : OA} {c0_0 c0_1 c0_2 : Nat} {x1 : Int} {r : Bool} {w : World} (hp : M.qej s0 x1) (hr : r = M.qbB s0 x1) (R0_0 : Row el84 w A0_0 s0.Code) (hc0_0 : s0.Code.length ≤ c0_0) (R0_1 : RowW 52 el91 el3 w A0_1 s0.Warps) (hc0_1 : s0.Warps.length ≤ c0_1) (R0_2 : Row el3 w A0_2 s0.Memory) (hc0_2 : s0.Memory.length ≤ c0_2) :
    Cl 65 #[(.agg (bC A0_0 c0_0 A0_1 c0_1 A0_2 c0_2 s0)), (iv x1)] w (fun v_ w_ => v_ = (.bool r) ∧ Ext w w_) := by
 have H := wp.qbB.math s0 x1 hp
 refine begK mixed Tryz.f65 ann (vc A0_0 s0.Code.length c0_0 A0_1 s0.Warps.length c0_1 A0_2 s0.Memory.length c0_2 s0.Waiting s0.Phase x1) ?_
 unfold vc
 unfold wp.qbB at H
 refine qax (fun g4_ w21 L4 O4 e22 => ?_)
 have hB := qa5 (Ext.refl w) e22
 refine ⟨_, (O4.a 3), ?_⟩
 obtain ⟨hc23, H⟩ := H
 refine ⟨hc23, ?_⟩
 cases hr.trans H.symm
 exact ⟨rfl, hB⟩
def qaa.vc (A0 : OA) (n0 c0 f1 : Nat) (cap1 : Array Value) (w : World) (K : VK) : Prop :=
  qdA (σ := Int × Unit) (fun z21 w22 next23 => qa1 (decide (z21.1 < ((n0 : Nat) : Int))) ((idx z21.1 n0 A0 fun a24 => ldI w22 ((a24.add ((z21.1.toNat) * 3)).add 0) fun n25 => ldS w22 ((a24.add ((z21.1.toNat) * 3)).add 1) fun A26 n27 c28 => ldS w22 ((a24.add ((z21.1.toNat) * 3)).add 2) fun A29 n30 c31 => Cl f1 (#[(.agg #[(iv n25), (sv A26 n27 c28), (sv A29 n30 c31)])] ++ cap1) w22 fun v32 w33 => (∃ (b34 : Bool), v32 = (.bool b34) ∧ qa1 b34 (K (iv z21.1) w33) (next23 ((wrap .i64 (z21.1 + 1)), ()) w33)))) (K (iv (-1)) w22)) (0, ()) w

def qaa.ann : Ann := (.seq .l (.seq (.seq .l (.one (.loop [(8, .int .i64)] (.seq .l (.seq (.two .l .l) (.seq (.one (.seq .l (.seq .l (.two (.seq .l .l) .l)))) .l)))))) (.seq .l .l)))

theorem qaa.start {A0 : OA} {n0 c0 f1 : Nat} {cap1 : Array Value} {w : World} {K : Value → World → Prop} (h : qaa.vc A0 n0 c0 f1 cap1 w K) : Cl 165 #[(sv A0 n0 c0), (.func (.func f1) #[] cap1)] w K :=
  qex mixed (fn := Tryz.f165) (by kernel_rfl) (by kernel_rfl) (an := qaa.ann) (args := [(sv A0 n0 c0), (.func (.func f1) #[] cap1)]) (Eq.mpr (by kernel_rfl) h)

theorem qaa.con {xs0 : List D.Warp} {A0 : OA} {c0 f1 : Nat} {cap1 : Array Value} {g1 : D.Warp → Bool} {D1 : D.Warp → Prop} {r : Int} {w : World} (hp : M.qcL xs0 g1 D1) (hr : r = M.qaa xs0 g1) (R0 : RowW 52 el91 el3 w A0 xs0) (hc0 : xs0.length ≤ c0) (F1 : ∀ (z0_ : D.Warp) (Az0_1 : OA) (cz0_1 : Nat) (Az0_2 : OA) (cz0_2 : Nat), D1 z0_ → ∀ w_ : World, Ext w w_ → Row el91 w_ Az0_1 z0_.Frames → z0_.Frames.length ≤ cz0_1 → Row el3 w_ Az0_2 z0_.Regs → z0_.Regs.length ≤ cz0_2 → Cl f1 (#[(.agg (wC Az0_1 cz0_1 Az0_2 cz0_2 z0_))] ++ cap1) w_ (fun v_ w1_ => v_ = (.bool (g1 z0_)) ∧ Ext w_ w1_)) :
    Cl 165 #[(sv A0 xs0.length c0), (.func (.func f1) #[] cap1)] w (fun v_ w_ => v_ = (iv r) ∧ Ext w w_) := by
 have H := wp.qaa.math xs0 g1 D1 hp
 have hB := Ext.refl w
 refine qaa.start ?_
 unfold vc
 unfold wp.qaa at H
 obtain ⟨J23, ⟨m55, hJ54⟩, hS24⟩ := H
 refine ⟨fun m_ z_ w_ => ∃ (i21 : Int), z_ = (i21, ()) ∧ J23 m_ (i21, ()) ∧ Ext w w_, ⟨m55, 0, rfl, hJ54, hB⟩, ?_⟩
 rintro m22 _ w26 ⟨i21, rfl, hJ56, hB⟩
 have H := hS24 m22 _ hJ56
 clear hS24 hJ56
 try dsimp only at H ⊢
 refine brc H (fun h H => ?_) fun h H => ?_
 ·obtain ⟨⟨h0_30, h1_31⟩, H⟩ := H
  obtain ⟨a28, ha29, A35, c36, A37, c38, f32, f33, f34, R39, hle41, R40, hle42⟩ := RowW.at R0 h0_30 h1_31
  refine ⟨h0_30, h1_31, a28, ha29, _, (Ext.cell hB f32), _, _, _, (Ext.cell hB f33), _, _, _, (Ext.cell hB f34), ?_⟩
  obtain ⟨hd45, H⟩ := H
  obtain ⟨r43, hr44, H⟩ := qad H
  refine (F1 (rd xs0 i21) _ _ _ _ hd45 _ hB (R39.ext hB) hle41 (R40.ext hB) hle42).mono ?_
  rintro _ w46 ⟨rfl, e47⟩
  rw [← hr44]
  have hB := qa5 hB e47
  refine ⟨r43, rfl, ?_⟩
  refine brc H (fun h H => ?_) fun h H => ?_
  ·cases hr.trans H.symm
   exact ⟨rfl, hB⟩
  obtain ⟨m48, hm49, hJ50⟩ := H
  exact ⟨m48, hm49, _, rfl, hJ50, hB⟩
 cases hr.trans H.symm
 exact ⟨rfl, hB⟩
def qab.vc (A0 : OA) (n0 c0 f1 : Nat) (cap1 : Array Value) (w : World) (K : VK) : Prop :=
  Cl 165 #[(sv A0 n0 c0), (.func (.func f1) #[] cap1)] w fun v21 w22 => (∃ (n23 : Int), v21 = (iv n23) ∧ K (.bool (decide (n23 ≥ 0))) w22)

def qab.ann : Ann := (.seq .l (.seq .l .l))

theorem qab.start {A0 : OA} {n0 c0 f1 : Nat} {cap1 : Array Value} {w : World} {K : Value → World → Prop} (h : qab.vc A0 n0 c0 f1 cap1 w K) : Cl 119 #[(sv A0 n0 c0), (.func (.func f1) #[] cap1)] w K :=
  qex mixed (fn := Tryz.f119) (by kernel_rfl) (by kernel_rfl) (an := qab.ann) (args := [(sv A0 n0 c0), (.func (.func f1) #[] cap1)]) (Eq.mpr (by kernel_rfl) h)

theorem qab.con {xs0 : List D.Warp} {A0 : OA} {c0 f1 : Nat} {cap1 : Array Value} {g1 : D.Warp → Bool} {D1 : D.Warp → Prop} {r : Bool} {w : World} (hp : M.qcm xs0 g1 D1) (hr : r = M.qab xs0 g1) (R0 : RowW 52 el91 el3 w A0 xs0) (hc0 : xs0.length ≤ c0) (F1 : ∀ (z0_ : D.Warp) (Az0_1 : OA) (cz0_1 : Nat) (Az0_2 : OA) (cz0_2 : Nat), D1 z0_ → ∀ w_ : World, Ext w w_ → Row el91 w_ Az0_1 z0_.Frames → z0_.Frames.length ≤ cz0_1 → Row el3 w_ Az0_2 z0_.Regs → z0_.Regs.length ≤ cz0_2 → Cl f1 (#[(.agg (wC Az0_1 cz0_1 Az0_2 cz0_2 z0_))] ++ cap1) w_ (fun v_ w1_ => v_ = (.bool (g1 z0_)) ∧ Ext w_ w1_)) :
    Cl 119 #[(sv A0 xs0.length c0), (.func (.func f1) #[] cap1)] w (fun v_ w_ => v_ = (.bool r) ∧ Ext w w_) := by
 have H := wp.qab.math xs0 g1 D1 hp
 have hB := Ext.refl w
 refine qab.start ?_
 unfold vc
 unfold wp.qab at H
 obtain ⟨hp23, H⟩ := H
 obtain ⟨r21, hr22, H⟩ := qad H
 refine (qaa.con hp23 hr22 (R0.ext hB) hc0 (fun z0_ Az0_1 cz0_1 Az0_2 cz0_2 h_ w_ e_ => F1 z0_ Az0_1 cz0_1 Az0_2 cz0_2 h_ w_ (qa5 hB e_))).mono ?_
 rintro _ w24 ⟨rfl, e25⟩
 have hB := qa5 hB e25
 refine ⟨r21, rfl, ?_⟩
 cases hr.trans H.symm
 exact ⟨rfl, hB⟩
def qb9.vc (x0_0 : Int) (A0_1 : OA) (n0_1 c0_1 : Nat) (A0_2 : OA) (n0_2 c0_2 : Nat) (w : World) (K : VK) : Prop :=
  newK w (.cells #[(iv x0_0), (sv A0_1 n0_1 c0_1), (sv A0_2 n0_2 c0_2)] 52) fun g21 w22 => ldS w22 (((bx g21).add 1).add 0) fun A23 n24 c25 => K (.bool (decide (((n24 : Nat) : Int) > 0))) w22

def qb9.ann : Ann := (.seq .l (.seq .l .l))

theorem qb9.con {s0 : D.Warp} {A0_1 A0_2 : OA} {c0_1 c0_2 : Nat} {r : Bool} {w : World} (hp : M.qeC s0) (hr : r = M.qb9 s0) (R0_1 : Row el91 w A0_1 s0.Frames) (hc0_1 : s0.Frames.length ≤ c0_1) (R0_2 : Row el3 w A0_2 s0.Regs) (hc0_2 : s0.Regs.length ≤ c0_2) :
    Cl 120 #[(.agg (wC A0_1 c0_1 A0_2 c0_2 s0))] w (fun v_ w_ => v_ = (.bool r) ∧ Ext w w_) := by
 have H := wp.qb9.math s0 hp
 refine begK mixed Tryz.f120 ann (vc s0.Number A0_1 s0.Frames.length c0_1 A0_2 s0.Regs.length c0_2) ?_
 unfold vc
 unfold wp.qb9 at H
 refine qax (fun g3_ w21 L3 O3 e22 => ?_)
 have hB := qa5 (Ext.refl w) e22
 refine ⟨_, _, _, (O3.a 1), ?_⟩
 cases hr.trans H.symm
 exact ⟨rfl, hB⟩
def qbb.vc (A0_0 : OA) (n0_0 c0_0 : Nat) (A0_1 : OA) (n0_1 c0_1 : Nat) (A0_2 : OA) (n0_2 c0_2 : Nat) (x0_3 x0_4 : Int) (w : World) (K : VK) : Prop :=
  newK w (.cells (vB A0_0 n0_0 c0_0 A0_1 n0_1 c0_1 A0_2 n0_2 c0_2 x0_3 x0_4) 33) fun g21 w22 => ldS w22 (((bx g21).add 1).add 0) fun A23 n24 c25 => Cl 119 #[(sv A23 n24 c25), (.func (.func 120) #[] #[])] w22 fun v26 w27 => (∃ (b28 : Bool), v26 = (.bool b28) ∧ K (.bool (!b28)) w27)

def qbb.ann : Ann := (.seq .l (.seq .l .l))

theorem qbb.con {s0 : D.Block} {A0_0 A0_1 A0_2 : OA} {c0_0 c0_1 c0_2 : Nat} {r : Bool} {w : World} (hp : M.qel s0) (hr : r = M.qbb s0) (R0_0 : Row el84 w A0_0 s0.Code) (hc0_0 : s0.Code.length ≤ c0_0) (R0_1 : RowW 52 el91 el3 w A0_1 s0.Warps) (hc0_1 : s0.Warps.length ≤ c0_1) (R0_2 : Row el3 w A0_2 s0.Memory) (hc0_2 : s0.Memory.length ≤ c0_2) :
    Cl 60 #[(.agg (bC A0_0 c0_0 A0_1 c0_1 A0_2 c0_2 s0))] w (fun v_ w_ => v_ = (.bool r) ∧ Ext w w_) := by
 have H := wp.qbb.math s0 hp
 refine begK mixed Tryz.f60 ann (vc A0_0 s0.Code.length c0_0 A0_1 s0.Warps.length c0_1 A0_2 s0.Memory.length c0_2 s0.Waiting s0.Phase) ?_
 unfold vc
 unfold wp.qbb at H
 refine qax (fun g4_ w21 L4 O4 e22 => ?_)
 have hB := qa5 (Ext.refl w) e22
 refine ⟨_, _, _, (O4.a 1), ?_⟩
 obtain ⟨hp25, H⟩ := H
 obtain ⟨r23, hr24, H⟩ := qad H
 refine (qab.con hp25 hr24 (R0_1.ext hB) hc0_1 (fun z0_ Az0_1 cz0_1 Az0_2 cz0_2 h_ w_ e_ rz0_1 lz0_1 rz0_2 lz0_2 => qjj (l1 := [_]) (l2 := []) (qb9.con h_ rfl rz0_1 lz0_1 rz0_2 lz0_2))).mono ?_
 rintro _ w26 ⟨rfl, e27⟩
 have hB := qa5 hB e27
 refine ⟨r23, rfl, ?_⟩
 cases hr.trans H.symm
 exact ⟨rfl, hB⟩
def qbn.vc (A0_0 : OA) (n0_0 c0_0 : Nat) (A0_1 : OA) (n0_1 c0_1 : Nat) (A0_2 : OA) (n0_2 c0_2 : Nat) (x0_3 x0_4 : Int) (w : World) (K : VK) : Prop :=
  newK w (.cells (vB A0_0 n0_0 c0_0 A0_1 n0_1 c0_1 A0_2 n0_2 c0_2 x0_3 x0_4) 33) fun g21 w22 => ldB w22 (bx g21) fun A23 n24 c25 A26 n27 c28 A29 n30 c31 n32 n33 => Cl 32 #[(.agg (vB A23 n24 c25 A26 n27 c28 A29 n30 c31 n32 n33))] w22 fun v34 w35 => (∃ (b36 : Bool), v34 = (.bool b36) ∧ qa1 b36 (ldB w35 (bx g21) fun A37 n38 c39 A40 n41 c42 A43 n44 c45 n46 n47 => Cl 60 #[(.agg (vB A37 n38 c39 A40 n41 c42 A43 n44 c45 n46 n47))] w35 fun v48 w49 => (∃ (b50 : Bool), v48 = (.bool b50) ∧ K (.bool b50) w49)) (K (.bool false) w35))

def qbn.ann : Ann := (.seq .l (.seq .l .l))

theorem qbn.con {s0 : D.Block} {A0_0 A0_1 A0_2 : OA} {c0_0 c0_1 c0_2 : Nat} {r : Bool} {w : World} (hp : M.qet s0) (hr : r = M.qbn s0) (R0_0 : Row el84 w A0_0 s0.Code) (hc0_0 : s0.Code.length ≤ c0_0) (R0_1 : RowW 52 el91 el3 w A0_1 s0.Warps) (hc0_1 : s0.Warps.length ≤ c0_1) (R0_2 : Row el3 w A0_2 s0.Memory) (hc0_2 : s0.Memory.length ≤ c0_2) :
    Cl 26 #[(.agg (bC A0_0 c0_0 A0_1 c0_1 A0_2 c0_2 s0))] w (fun v_ w_ => v_ = (.bool r) ∧ Ext w w_) := by
 have H := wp.qbn.math s0 hp
 refine begK mixed Tryz.f26 ann (vc A0_0 s0.Code.length c0_0 A0_1 s0.Warps.length c0_1 A0_2 s0.Memory.length c0_2 s0.Waiting s0.Phase) ?_
 unfold vc
 unfold wp.qbn at H
 refine qax (fun g4_ w21 L4 O4 e22 => ?_)
 have hB := qa5 (Ext.refl w) e22
 refine ⟨_, _, _, (O4.a 0), _, _, _, (O4.a 1), _, _, _, (O4.a 2), _, (O4.a 3), _, (O4.a 4), ?_⟩
 obtain ⟨hp25, H⟩ := H
 obtain ⟨r23, hr24, H⟩ := qad H
 refine (qbl.con hp25 hr24 (R0_0.ext hB) hc0_0 (R0_1.ext hB) hc0_1 (R0_2.ext hB) hc0_2).mono ?_
 rintro _ w26 ⟨rfl, e27⟩
 have O4 := O4.ext e27
 have hB := qa5 hB e27
 refine ⟨r23, rfl, ?_⟩
 refine brc H (fun h H => ?_) fun h H => ?_
 ·refine ⟨_, _, _, (O4.a 0), _, _, _, (O4.a 1), _, _, _, (O4.a 2), _, (O4.a 3), _, (O4.a 4), ?_⟩
  obtain ⟨hp30, H⟩ := H
  obtain ⟨r28, hr29, H⟩ := qad H
  refine (qbb.con hp30 hr29 (R0_0.ext hB) hc0_0 (R0_1.ext hB) hc0_1 (R0_2.ext hB) hc0_2).mono ?_
  rintro _ w31 ⟨rfl, e32⟩
  have hB := qa5 hB e32
  refine ⟨r28, rfl, ?_⟩
  cases hr.trans H.symm
  exact ⟨rfl, hB⟩
 cases hr.trans H.symm
 exact ⟨rfl, hB⟩
def qch.vc (A0_0 : OA) (n0_0 c0_0 : Nat) (A0_1 : OA) (n0_1 c0_1 : Nat) (A0_2 : OA) (n0_2 c0_2 : Nat) (x0_3 x0_4 x1 : Int) (w : World) (K : VK) : Prop :=
  newK w (.cells (vB A0_0 n0_0 c0_0 A0_1 n0_1 c0_1 A0_2 n0_2 c0_2 x0_3 x0_4) 33) fun g21 w22 => newK w22 (.cells #[(iv 0), (iv 0), (iv 0), (iv 0)] 84) fun g23 w24 => ldS w24 (((bx g21).add 1).add 0) fun A25 n26 c27 => (idx x1 n26 A25 fun a28 => ldS w24 (((a28.add ((x1.toNat) * 3)).add 1).add 0) fun A29 n30 c31 => (∃ M32 : Nat → Prop, ldSM M32 w24 ((bx g21).add 0) 0 fun A33 n34 c35 => (idx (wrap .i64 (((n30 : Nat) : Int) - 1)) n30 A29 fun a36 => ldIM M32 w24 ((a36.add (((wrap .i64 (((n30 : Nat) : Int) - 1)).toNat) * 3)).add 0) 0 fun n37 => (idx n37 n34 A33 fun a38 => ldIM M32 w24 (a38.add ((n37.toNat) * 4)) 0 fun n39 => ldIM M32 w24 (a38.add ((n37.toNat) * 4)) 1 fun n40 => ldIM M32 w24 (a38.add ((n37.toNat) * 4)) 2 fun n41 => ldIM M32 w24 (a38.add ((n37.toNat) * 4)) 3 fun n42 => qa7 (bx g23) [(iv n39), (iv n40), (iv n41), (iv n42)] 0 w24.drew fun w43 => ldI w43 ((bx g23).add 0) fun n44 => ldI w43 ((bx g23).add 1) fun n45 => ldI w43 ((bx g23).add 2) fun n46 => ldI w43 ((bx g23).add 3) fun n47 => K (.agg #[(iv n44), (iv n45), (iv n46), (iv n47)]) w43))))

def qch.ann : Ann := (.seq .l (.seq .l (.seq .l .l)))

theorem qch.con {s0 : D.Block} {A0_0 A0_1 A0_2 : OA} {c0_0 c0_1 c0_2 : Nat} {x1 : Int} {r : D.Ins} {w : World} (hp : M.qez s0 x1) (hr : r = M.qch s0 x1) (R0_0 : Row el84 w A0_0 s0.Code) (hc0_0 : s0.Code.length ≤ c0_0) (R0_1 : RowW 52 el91 el3 w A0_1 s0.Warps) (hc0_1 : s0.Warps.length ≤ c0_1) (R0_2 : Row el3 w A0_2 s0.Memory) (hc0_2 : s0.Memory.length ≤ c0_2) :
    Cl 98 #[(.agg (bC A0_0 c0_0 A0_1 c0_1 A0_2 c0_2 s0)), (iv x1)] w (fun v_ w_ => v_ = (.agg (iC r)) ∧ Ext w w_) := by
 have H := wp.qch.math s0 x1 hp
 refine begK mixed Tryz.f98 ann (vc A0_0 s0.Code.length c0_0 A0_1 s0.Warps.length c0_1 A0_2 s0.Memory.length c0_2 s0.Waiting s0.Phase x1) ?_
 unfold vc
 unfold wp.qch at H
 refine qax (fun g4_ w21 L4 O4 e22 => ?_)
 have hB := qa5 (Ext.refl w) e22
 refine qax (fun g5_ w23 L5 P5 e24 => ?_)
 have O4 := O4.ext e24
 have L5 := Nat.le_trans hB.size L5
 have hB := qa5 hB e24
 refine ⟨_, _, _, (O4.a 1), ?_⟩
 obtain ⟨⟨h0_28, h1_29⟩, H⟩ := H
 obtain ⟨a26, ha27, A33, c34, A35, c36, f30, f31, f32, R37, hle39, R38, hle40⟩ := RowW.at R0_1 h0_28 h1_29
 refine ⟨h0_28, h1_29, a26, ha27, _, _, _, (Ext.cell hB f31), (fun _ => False), _, _, _, noM (O4.a 0), ?_⟩
 obtain ⟨⟨h0_45, h1_46⟩, H⟩ := H
 obtain ⟨a43, ha44, hat42⟩ := Row.at (R37.ext hB) h0_45 h1_46
 refine ⟨h0_45, (by first | exact h1_46 | omega | (simp at h1_46 ⊢; omega)), a43, ha44, _, ⟨(fun h_ => h_), (hat42 0 _ rfl)⟩, ?_⟩
 obtain ⟨⟨h0_50, h1_51⟩, H⟩ := H
 obtain ⟨a48, ha49, hat47⟩ := Row.at (R0_0.ext hB) h0_50 h1_51
 refine ⟨h0_50, h1_51, a48, ha49, _, ⟨(fun h_ => h_), (hat47 0 _ rfl)⟩, _, ⟨(fun h_ => h_), (hat47 1 _ rfl)⟩, _, ⟨(fun h_ => h_), (hat47 2 _ rfl)⟩, _, ⟨(fun h_ => h_), (hat47 3 _ rfl)⟩, ?_⟩
 have O5 := P5.ext (Ext.drew _)
 have hB := qa5 hB (Ext.drew _)
 refine qbI O5 (o := 0) (cs' := #[(iv ((rd s0.Code ((rd ((rd s0.Warps x1).Frames) (wrap .i64 (((rd s0.Warps x1).Frames.length : Int) - 1))).Pc)).Op)), (iv ((rd s0.Code ((rd ((rd s0.Warps x1).Frames) (wrap .i64 (((rd s0.Warps x1).Frames.length : Int) - 1))).Pc)).A)), (iv ((rd s0.Code ((rd ((rd s0.Warps x1).Frames) (wrap .i64 (((rd s0.Warps x1).Frames.length : Int) - 1))).Pc)).B)), (iv ((rd s0.Code ((rd ((rd s0.Warps x1).Frames) (wrap .i64 (((rd s0.Warps x1).Frames.length : Int) - 1))).Pc)).C))]) rfl rfl (Nat.le_of_ble_eq_true rfl) rfl (fun w52 O5 e53 => ?_)
 have hB := echg hB e53 L5
 refine ⟨_, (O5.a 0), _, (O5.a 1), _, (O5.a 2), _, (O5.a 3), ?_⟩
 cases hr.trans H.symm
 exact ⟨rfl, hB⟩
def qaB.vc (A0_0 : OA) (n0_0 c0_0 : Nat) (A0_1 : OA) (n0_1 c0_1 : Nat) (A0_2 : OA) (n0_2 c0_2 : Nat) (x0_3 x0_4 x1 : Int) (w : World) (K : VK) : Prop :=
  newK w (.cells (vB A0_0 n0_0 c0_0 A0_1 n0_1 c0_1 A0_2 n0_2 c0_2 x0_3 x0_4) 33) fun g21 w22 => newK w22 (.cells #[(iv 0), (iv 0), (iv 0), (iv 0)] 84) fun g23 w24 => ldS w24 (((bx g21).add 1).add 0) fun A25 n26 c27 => (idx x1 n26 A25 fun a28 => ldS w24 (((a28.add ((x1.toNat) * 3)).add 1).add 0) fun A29 n30 c31 => qa1 (((n30 : Nat) : Int) == 0) (qa7 (bx g23) [(iv 0), (iv 0), (iv 0), (iv 0)] 0 w24 fun w32 => ldI w32 ((bx g23).add 0) fun n33 => ldI w32 ((bx g23).add 1) fun n34 => ldI w32 ((bx g23).add 2) fun n35 => ldI w32 ((bx g23).add 3) fun n36 => K (.tuple #[(.agg #[(iv n33), (iv n34), (iv n35), (iv n36)]), (.bool false)]) w32) ((∃ M37 : Nat → Prop, ldSM M37 w24 ((bx g21).add 0) 0 fun A38 n39 c40 => (idx (wrap .i64 (((n30 : Nat) : Int) - 1)) n30 A29 fun a41 => ldIM M37 w24 ((a41.add (((wrap .i64 (((n30 : Nat) : Int) - 1)).toNat) * 3)).add 0) 0 fun n42 => (idx n42 n39 A38 fun a43 => ldIM M37 w24 (a43.add ((n42.toNat) * 4)) 0 fun n44 => ldIM M37 w24 (a43.add ((n42.toNat) * 4)) 1 fun n45 => ldIM M37 w24 (a43.add ((n42.toNat) * 4)) 2 fun n46 => ldIM M37 w24 (a43.add ((n42.toNat) * 4)) 3 fun n47 => qa7 (bx g23) [(iv n44), (iv n45), (iv n46), (iv n47)] 0 w24.drew fun w48 => qac M37 w24 w48 ∧ ldI w48 ((bx g23).add 0) fun n49 => ldI w48 ((bx g23).add 1) fun n50 => ldI w48 ((bx g23).add 2) fun n51 => ldI w48 ((bx g23).add 3) fun n52 => K (.tuple #[(.agg #[(iv n49), (iv n50), (iv n51), (iv n52)]), (.bool true)]) w48)))))

def qaB.ann : Ann := (.seq .l (.seq .l (.seq (.seq .l (.two (.seq .l .l) .l)) (.seq .l .l))))

theorem qaB.con {s0 : D.Block} {A0_0 A0_1 A0_2 : OA} {c0_0 c0_1 c0_2 : Nat} {x1 : Int} {r : D.Ins × Bool} {w : World} (hp : M.qe8 s0 x1) (hr : r = M.qaB s0 x1) (R0_0 : Row el84 w A0_0 s0.Code) (hc0_0 : s0.Code.length ≤ c0_0) (R0_1 : RowW 52 el91 el3 w A0_1 s0.Warps) (hc0_1 : s0.Warps.length ≤ c0_1) (R0_2 : Row el3 w A0_2 s0.Memory) (hc0_2 : s0.Memory.length ≤ c0_2) :
    Cl 68 #[(.agg (bC A0_0 c0_0 A0_1 c0_1 A0_2 c0_2 s0)), (iv x1)] w (fun v_ w_ => v_ = (.tuple #[(.agg (iC r.1)), (.bool r.2)]) ∧ Ext w w_) := by
 have H := wp.qaB.math s0 x1 hp
 refine begK mixed Tryz.f68 ann (vc A0_0 s0.Code.length c0_0 A0_1 s0.Warps.length c0_1 A0_2 s0.Memory.length c0_2 s0.Waiting s0.Phase x1) ?_
 unfold vc
 unfold wp.qaB at H
 refine qax (fun g4_ w21 L4 O4 e22 => ?_)
 have hB := qa5 (Ext.refl w) e22
 refine qax (fun g5_ w23 L5 P5 e24 => ?_)
 have N4_5 := O4.ne L5
 have O4 := O4.ext e24
 have O5 := P5
 have L5 := Nat.le_trans hB.size L5
 have hB := qa5 hB e24
 refine ⟨_, _, _, (O4.a 1), ?_⟩
 obtain ⟨⟨h0_28, h1_29⟩, H⟩ := H
 obtain ⟨a26, ha27, A33, c34, A35, c36, f30, f31, f32, R37, hle39, R38, hle40⟩ := RowW.at R0_1 h0_28 h1_29
 refine ⟨h0_28, h1_29, a26, ha27, _, _, _, (Ext.cell hB f31), ?_⟩
 refine brc H (fun h H => ?_) fun h H => ?_
 ·refine qbI O5 (o := 0) (cs' := #[(iv 0), (iv 0), (iv 0), (iv 0)]) rfl rfl (Nat.le_of_ble_eq_true rfl) rfl (fun w41 O5 e42 => ?_)
  have hB := echg hB e42 L5
  refine ⟨_, (O5.a 0), _, (O5.a 1), _, (O5.a 2), _, (O5.a 3), ?_⟩
  cases hr.trans H.symm
  exact ⟨rfl, hB⟩
 refine ⟨((fun k_ => k_ = g5_)), _, _, _, ⟨(qh3 (N4_5) (by first | rfl | (simp only [qe6]))), (O4.a 0)⟩, ?_⟩
 obtain ⟨⟨h0_59, h1_60⟩, H⟩ := H
 obtain ⟨a57, ha58, hat56⟩ := Row.at (R37.ext hB) h0_59 h1_60
 refine ⟨h0_59, (by first | exact h1_60 | omega | (simp at h1_60 ⊢; omega)), a57, ha58, _, ⟨(qh3 (M := ((fun k_ => k_ = g5_))) (g := Addr.block a57) (fun h_ => absurd (R37.old (ql3 h0_59 h1_60) _ ⟨_, ha58, rfl⟩) (Nat.not_lt.2 (qfS L5 _ h_))) (by first | rfl | (simp only [qe6]))), (hat56 0 _ rfl)⟩, ?_⟩
 obtain ⟨⟨h0_64, h1_65⟩, H⟩ := H
 obtain ⟨a62, ha63, hat61⟩ := Row.at (R0_0.ext hB) h0_64 h1_65
 refine ⟨h0_64, h1_65, a62, ha63, _, ⟨(qh3 (M := ((fun k_ => k_ = g5_))) (g := Addr.block a62) (fun h_ => absurd (R0_0.old (ql3 h0_64 h1_65) _ ⟨_, ha63, rfl⟩) (Nat.not_lt.2 (qfS L5 _ h_))) (by first | rfl | (simp only [qe6]))), (hat61 0 _ rfl)⟩, _, ⟨(qh3 (M := ((fun k_ => k_ = g5_))) (g := Addr.block a62) (fun h_ => absurd (R0_0.old (ql3 h0_64 h1_65) _ ⟨_, ha63, rfl⟩) (Nat.not_lt.2 (qfS L5 _ h_))) (by first | rfl | (simp only [qe6]))), (hat61 1 _ rfl)⟩, _, ⟨(qh3 (M := ((fun k_ => k_ = g5_))) (g := Addr.block a62) (fun h_ => absurd (R0_0.old (ql3 h0_64 h1_65) _ ⟨_, ha63, rfl⟩) (Nat.not_lt.2 (qfS L5 _ h_))) (by first | rfl | (simp only [qe6]))), (hat61 2 _ rfl)⟩, ?_⟩
 refine ⟨_, ⟨(qh3 (M := ((fun k_ => k_ = g5_))) (g := Addr.block a62) (fun h_ => absurd (R0_0.old (ql3 h0_64 h1_65) _ ⟨_, ha63, rfl⟩) (Nat.not_lt.2 (qfS L5 _ h_))) (by first | rfl | (simp only [qe6]))), (hat61 3 _ rfl)⟩, ?_⟩
 have O5 := O5.ext (Ext.drew _)
 have hB := qa5 hB (Ext.drew _)
 refine qbI O5 (o := 0) (cs' := #[(iv ((rd s0.Code ((rd ((rd s0.Warps x1).Frames) (wrap .i64 (((rd s0.Warps x1).Frames.length : Int) - 1))).Pc)).Op)), (iv ((rd s0.Code ((rd ((rd s0.Warps x1).Frames) (wrap .i64 (((rd s0.Warps x1).Frames.length : Int) - 1))).Pc)).A)), (iv ((rd s0.Code ((rd ((rd s0.Warps x1).Frames) (wrap .i64 (((rd s0.Warps x1).Frames.length : Int) - 1))).Pc)).B)), (iv ((rd s0.Code ((rd ((rd s0.Warps x1).Frames) (wrap .i64 (((rd s0.Warps x1).Frames.length : Int) - 1))).Pc)).C))]) rfl rfl (Nat.le_of_ble_eq_true rfl) rfl (fun w66 O5 e67 => ?_)
 have hB := echg hB e67 L5
 have hS43 := ((Chg.refl ((fun k_ => k_ = g5_)) w23).then (Ext.drew _)).chgb e67 (Or.inr rfl)
 refine ⟨qa2 hS43, _, (O5.a 0), _, (O5.a 1), _, (O5.a 2), _, (O5.a 3), ?_⟩
 cases hr.trans H.symm
 exact ⟨rfl, hB⟩
def qal.vc (A0 : OA) (n0 c0 : Nat) (A1 : OA) (n1 c1 : Nat) (w : World) (K : VK) : Prop :=
  qa1 (((n0 : Nat) : Int) != ((n1 : Nat) : Int)) (K (.bool false) w) (qdA (σ := Int × Unit) (fun z21 w22 next23 => qa1 (decide (z21.1 < ((n0 : Nat) : Int))) ((idx z21.1 n0 A0 fun a24 => ldI w22 ((a24.add ((z21.1.toNat) * 4)).add 0) fun n25 => ldI w22 ((a24.add ((z21.1.toNat) * 4)).add 1) fun n26 => ldI w22 ((a24.add ((z21.1.toNat) * 4)).add 2) fun n27 => ldI w22 ((a24.add ((z21.1.toNat) * 4)).add 3) fun n28 => (idx z21.1 n1 A1 fun a29 => ldI w22 ((a29.add ((z21.1.toNat) * 4)).add 0) fun n30 => ldI w22 ((a29.add ((z21.1.toNat) * 4)).add 1) fun n31 => ldI w22 ((a29.add ((z21.1.toNat) * 4)).add 2) fun n32 => ldI w22 ((a29.add ((z21.1.toNat) * 4)).add 3) fun n33 => qmf Tryz.prog .neq 84 (.agg #[(iv n25), (iv n26), (iv n27), (iv n28)]) (.agg #[(iv n30), (iv n31), (iv n32), (iv n33)]) fun b34 => qa1 b34 (K (.bool false) w22.drew) (next23 ((wrap .i64 (z21.1 + 1)), ()) w22.drew)))) (K (.bool true) w22)) (0, ()) w)

def qal.ann : Ann := (.seq .l (.seq (.seq .l (.two (.seq .l .l) .l)) (.seq (.seq .l (.one (.loop [(13, .int .i64)] (.seq .l (.seq (.two .l .l) (.seq (.one (.seq .l (.seq .l (.two (.seq .l .l) .l)))) .l)))))) (.seq .l .l))))

theorem qal.con {xs0 xs1 : List D.Ins} {A0 A1 : OA} {c0 c1 : Nat} {r : Bool} {w : World} (hp : M.qdn xs0 xs1) (hr : r = M.qal xs0 xs1) (R0 : Row el84 w A0 xs0) (hc0 : xs0.length ≤ c0) (R1 : Row el84 w A1 xs1) (hc1 : xs1.length ≤ c1) :
    Cl 71 #[(sv A0 xs0.length c0), (sv A1 xs1.length c1)] w (fun v_ w_ => v_ = (.bool r) ∧ Ext w w_) := by
 have H := wp.qal.math xs0 xs1 hp
 have hB := Ext.refl w
 refine begK mixed Tryz.f71 ann (vc A0 xs0.length c0 A1 xs1.length c1) ?_
 unfold vc
 unfold wp.qal at H
 refine brc H (fun h H => ?_) fun h H => ?_
 ·cases hr.trans H.symm
  exact ⟨rfl, hB⟩
 obtain ⟨J23, ⟨m45, hJ44⟩, hS24⟩ := H
 refine ⟨fun m_ z_ w_ => ∃ (i21 : Int), z_ = (i21, ()) ∧ J23 m_ (i21, ()) ∧ Ext w w_, ⟨m45, 0, rfl, hJ44, hB⟩, ?_⟩
 rintro m22 _ w26 ⟨i21, rfl, hJ46, hB⟩
 have H := hS24 m22 _ hJ46
 clear hS24 hJ46
 try dsimp only at H ⊢
 refine brc H (fun h H => ?_) fun h H => ?_
 ·obtain ⟨⟨h0_31, h1_32⟩, H⟩ := H
  obtain ⟨a29, ha30, hat28⟩ := Row.at (R0.ext hB) h0_31 h1_32
  refine ⟨h0_31, h1_32, a29, ha30, _, (hat28 0 _ rfl), _, (hat28 1 _ rfl), _, (hat28 2 _ rfl), _, (hat28 3 _ rfl), ?_⟩
  obtain ⟨⟨h0_36, h1_37⟩, H⟩ := H
  obtain ⟨a34, ha35, hat33⟩ := Row.at (R1.ext hB) h0_36 h1_37
  refine ⟨h0_36, h1_37, a34, ha35, _, (hat33 0 _ rfl), _, (hat33 1 _ rfl), _, (hat33 2 _ rfl), _, (hat33 3 _ rfl), _, qmN ((rd xs0 i21).Op) ((rd xs0 i21).A) ((rd xs0 i21).B) ((rd xs0 i21).C) ((rd xs1 i21).Op) ((rd xs1 i21).A) ((rd xs1 i21).B) ((rd xs1 i21).C), ?_⟩
  have hB := qa5 hB (Ext.drew _)
  refine brc H (fun h H => ?_) fun h H => ?_
  ·cases hr.trans H.symm
   exact ⟨rfl, hB⟩
  obtain ⟨m38, hm39, hJ40⟩ := H
  exact ⟨m38, hm39, _, rfl, hJ40, hB⟩
 cases hr.trans H.symm
 exact ⟨rfl, hB⟩
def qa4.vc (A0 : OA) (n0 c0 : Nat) (A1 : OA) (n1 c1 f2 : Nat) (cap2 : Array Value) (w : World) (K : VK) : Prop :=
  qa1 (((n0 : Nat) : Int) != ((n1 : Nat) : Int)) (K (.bool false) w) (qdA (σ := Int × Unit) (fun z21 w22 next23 => qa1 (decide (z21.1 < ((n0 : Nat) : Int))) ((idx z21.1 n0 A0 fun a24 => ldI w22 ((a24.add ((z21.1.toNat) * 3)).add 0) fun n25 => ldS w22 ((a24.add ((z21.1.toNat) * 3)).add 1) fun A26 n27 c28 => ldS w22 ((a24.add ((z21.1.toNat) * 3)).add 2) fun A29 n30 c31 => newK w22 (.cells #[(iv 0), (sv none 0 0), (sv none 0 0)] 52) fun g32 w33 => qa7 (bx g32) [(iv n25), (sv A26 n27 c28), (sv A29 n30 c31)] 0 w33 fun w34 => (idx z21.1 n1 A1 fun a35 => ldI w34 ((a35.add ((z21.1.toNat) * 3)).add 0) fun n36 => ldS w34 ((a35.add ((z21.1.toNat) * 3)).add 1) fun A37 n38 c39 => ldS w34 ((a35.add ((z21.1.toNat) * 3)).add 2) fun A40 n41 c42 => newK w34 (.cells #[(iv 0), (sv none 0 0), (sv none 0 0)] 52) fun g43 w44 => qa7 (bx g43) [(iv n36), (sv A37 n38 c39), (sv A40 n41 c42)] 0 w44 fun w45 => ldI w45 ((bx g32).add 0) fun n46 => ldS w45 ((bx g32).add 1) fun A47 n48 c49 => ldS w45 ((bx g32).add 2) fun A50 n51 c52 => ldI w45 ((bx g43).add 0) fun n53 => ldS w45 ((bx g43).add 1) fun A54 n55 c56 => ldS w45 ((bx g43).add 2) fun A57 n58 c59 => Cl f2 (#[(.agg #[(iv n46), (sv A47 n48 c49), (sv A50 n51 c52)]), (.agg #[(iv n53), (sv A54 n55 c56), (sv A57 n58 c59)])] ++ cap2) w45 fun v60 w61 => (∃ (b62 : Bool), v60 = (.bool b62) ∧ qa1 (!b62) (K (.bool false) w61) (next23 ((wrap .i64 (z21.1 + 1)), ()) w61))))) (K (.bool true) w22)) (0, ()) w)

def qa4.ann : Ann := (.seq .l (.seq (.seq .l (.two (.seq .l .l) .l)) (.seq (.seq .l (.one (.loop [(17, .int .i64)] (.seq .l (.seq (.two .l .l) (.seq (.one (.seq .l (.seq .l (.seq .l (.two (.seq .l .l) .l))))) .l)))))) (.seq .l .l))))

theorem qa4.start {A0 : OA} {n0 c0 : Nat} {A1 : OA} {n1 c1 f2 : Nat} {cap2 : Array Value} {w : World} {K : Value → World → Prop} (h : qa4.vc A0 n0 c0 A1 n1 c1 f2 cap2 w K) : Cl 72 #[(sv A0 n0 c0), (sv A1 n1 c1), (.func (.func f2) #[] cap2)] w K :=
  qex mixed (fn := Tryz.f72) (by kernel_rfl) (by kernel_rfl) (an := qa4.ann) (args := [(sv A0 n0 c0), (sv A1 n1 c1), (.func (.func f2) #[] cap2)]) (Eq.mpr (by kernel_rfl) h)

theorem qa4.con {xs0 xs1 : List D.Warp} {A0 A1 : OA} {c0 c1 f2 : Nat} {cap2 : Array Value} {g2 : D.Warp → D.Warp → Bool} {D2 : D.Warp → D.Warp → Prop} {r : Bool} {w : World} (hp : M.qb8 xs0 xs1 g2 D2) (hr : r = M.qa4 xs0 xs1 g2) (R0 : RowW 52 el91 el3 w A0 xs0) (hc0 : xs0.length ≤ c0) (R1 : RowW 52 el91 el3 w A1 xs1) (hc1 : xs1.length ≤ c1) (F2 : ∀ (z0_ : D.Warp) (z1_ : D.Warp) (Az0_1 : OA) (cz0_1 : Nat) (Az0_2 : OA) (cz0_2 : Nat) (Az1_1 : OA) (cz1_1 : Nat) (Az1_2 : OA) (cz1_2 : Nat), D2 z0_ z1_ → ∀ w_ : World, Ext w w_ → Row el91 w_ Az0_1 z0_.Frames → z0_.Frames.length ≤ cz0_1 → Row el3 w_ Az0_2 z0_.Regs → z0_.Regs.length ≤ cz0_2 → Row el91 w_ Az1_1 z1_.Frames → z1_.Frames.length ≤ cz1_1 → Row el3 w_ Az1_2 z1_.Regs → z1_.Regs.length ≤ cz1_2 → Cl f2 (#[(.agg (wC Az0_1 cz0_1 Az0_2 cz0_2 z0_)), (.agg (wC Az1_1 cz1_1 Az1_2 cz1_2 z1_))] ++ cap2) w_ (fun v_ w1_ => v_ = (.bool (g2 z0_ z1_)) ∧ Ext w_ w1_)) :
    Cl 72 #[(sv A0 xs0.length c0), (sv A1 xs1.length c1), (.func (.func f2) #[] cap2)] w (fun v_ w_ => v_ = (.bool r) ∧ Ext w w_) := by
 have H := wp.qa4.math xs0 xs1 g2 D2 hp
 have hB := Ext.refl w
 refine qa4.start ?_
 unfold vc
 unfold wp.qa4 at H
 refine brc H (fun h H => ?_) fun h H => ?_
 ·cases hr.trans H.symm
  exact ⟨rfl, hB⟩
 obtain ⟨J23, ⟨m79, hJ78⟩, hS24⟩ := H
 refine ⟨fun m_ z_ w_ => ∃ (i21 : Int), z_ = (i21, ()) ∧ J23 m_ (i21, ()) ∧ Ext w w_, ⟨m79, 0, rfl, hJ78, hB⟩, ?_⟩
 rintro m22 _ w26 ⟨i21, rfl, hJ80, hB⟩
 have H := hS24 m22 _ hJ80
 clear hS24 hJ80
 try dsimp only at H ⊢
 refine brc H (fun h H => ?_) fun h H => ?_
 ·obtain ⟨⟨h0_30, h1_31⟩, H⟩ := H
  obtain ⟨a28, ha29, A35, c36, A37, c38, f32, f33, f34, R39, hle41, R40, hle42⟩ := RowW.at R0 h0_30 h1_31
  refine ⟨h0_30, h1_31, a28, ha29, _, (Ext.cell hB f32), _, _, _, (Ext.cell hB f33), _, _, _, (Ext.cell hB f34), ?_⟩
  refine qiV #[(iv ((rd xs0 i21).Number)), (sv A35 ((rd xs0 i21).Frames.length) c36), (sv A37 ((rd xs0 i21).Regs.length) c38)] (fun g5_ w45 L5 O5 e46 => ?_)
  have hB := qa5 hB e46
  obtain ⟨⟨h0_50, h1_51⟩, H⟩ := H
  obtain ⟨a48, ha49, A55, c56, A57, c58, f52, f53, f54, R59, hle61, R60, hle62⟩ := RowW.at R1 h0_50 h1_51
  refine ⟨h0_50, h1_51, a48, ha49, _, (Ext.cell hB f52), _, _, _, (Ext.cell hB f53), _, _, _, (Ext.cell hB f54), ?_⟩
  refine qiV #[(iv ((rd xs1 i21).Number)), (sv A55 ((rd xs1 i21).Frames.length) c56), (sv A57 ((rd xs1 i21).Regs.length) c58)] (fun g8_ w65 L8 O8 e66 => ?_)
  have O5 := O5.ext e66
  have hB := qa5 hB e66
  refine ⟨_, (O5.a 0), _, _, _, (O5.a 1), _, _, _, (O5.a 2), _, (O8.a 0), _, _, _, (O8.a 1), _, _, _, (O8.a 2), ?_⟩
  obtain ⟨hd69, H⟩ := H
  obtain ⟨r67, hr68, H⟩ := qad H
  refine (F2 (rd xs0 i21) (rd xs1 i21) _ _ _ _ _ _ _ _ hd69 _ hB (R39.ext hB) hle41 (R40.ext hB) hle42 (R59.ext hB) hle61 (R60.ext hB) hle62).mono ?_
  rintro _ w70 ⟨rfl, e71⟩
  rw [← hr68]
  have hB := qa5 hB e71
  refine ⟨r67, rfl, ?_⟩
  refine brc H (fun h H => ?_) fun h H => ?_
  ·cases hr.trans H.symm
   exact ⟨rfl, hB⟩
  obtain ⟨m72, hm73, hJ74⟩ := H
  exact ⟨m72, hm73, _, rfl, hJ74, hB⟩
 cases hr.trans H.symm
 exact ⟨rfl, hB⟩
def qah.vc (A0 : OA) (n0 c0 : Nat) (A1 : OA) (n1 c1 : Nat) (w : World) (K : VK) : Prop :=
  qa1 (((n0 : Nat) : Int) != ((n1 : Nat) : Int)) (K (.bool false) w) (qdA (σ := Int × Unit) (fun z21 w22 next23 => qa1 (decide (z21.1 < ((n0 : Nat) : Int))) ((idx z21.1 n0 A0 fun a24 => ldI w22 ((a24.add ((z21.1.toNat) * 3)).add 0) fun n25 => ldI w22 ((a24.add ((z21.1.toNat) * 3)).add 1) fun n26 => ldI w22 ((a24.add ((z21.1.toNat) * 3)).add 2) fun n27 => (idx z21.1 n1 A1 fun a28 => ldI w22 ((a28.add ((z21.1.toNat) * 3)).add 0) fun n29 => ldI w22 ((a28.add ((z21.1.toNat) * 3)).add 1) fun n30 => ldI w22 ((a28.add ((z21.1.toNat) * 3)).add 2) fun n31 => qmf Tryz.prog .neq 91 (.agg #[(iv n25), (iv n26), (iv n27)]) (.agg #[(iv n29), (iv n30), (iv n31)]) fun b32 => qa1 b32 (K (.bool false) w22.drew) (next23 ((wrap .i64 (z21.1 + 1)), ()) w22.drew)))) (K (.bool true) w22)) (0, ()) w)

def qah.ann : Ann := (.seq .l (.seq (.seq .l (.two (.seq .l .l) .l)) (.seq (.seq .l (.one (.loop [(13, .int .i64)] (.seq .l (.seq (.two .l .l) (.seq (.one (.seq .l (.seq .l (.two (.seq .l .l) .l)))) .l)))))) (.seq .l .l))))

theorem qah.con {xs0 xs1 : List D.Frame} {A0 A1 : OA} {c0 c1 : Nat} {r : Bool} {w : World} (hp : M.qcV xs0 xs1) (hr : r = M.qah xs0 xs1) (R0 : Row el91 w A0 xs0) (hc0 : xs0.length ≤ c0) (R1 : Row el91 w A1 xs1) (hc1 : xs1.length ≤ c1) :
    Cl 74 #[(sv A0 xs0.length c0), (sv A1 xs1.length c1)] w (fun v_ w_ => v_ = (.bool r) ∧ Ext w w_) := by
 have H := wp.qah.math xs0 xs1 hp
 have hB := Ext.refl w
 refine begK mixed Tryz.f74 ann (vc A0 xs0.length c0 A1 xs1.length c1) ?_
 unfold vc
 unfold wp.qah at H
 refine brc H (fun h H => ?_) fun h H => ?_
 ·cases hr.trans H.symm
  exact ⟨rfl, hB⟩
 obtain ⟨J23, ⟨m45, hJ44⟩, hS24⟩ := H
 refine ⟨fun m_ z_ w_ => ∃ (i21 : Int), z_ = (i21, ()) ∧ J23 m_ (i21, ()) ∧ Ext w w_, ⟨m45, 0, rfl, hJ44, hB⟩, ?_⟩
 rintro m22 _ w26 ⟨i21, rfl, hJ46, hB⟩
 have H := hS24 m22 _ hJ46
 clear hS24 hJ46
 try dsimp only at H ⊢
 refine brc H (fun h H => ?_) fun h H => ?_
 ·obtain ⟨⟨h0_31, h1_32⟩, H⟩ := H
  obtain ⟨a29, ha30, hat28⟩ := Row.at (R0.ext hB) h0_31 h1_32
  refine ⟨h0_31, h1_32, a29, ha30, _, (hat28 0 _ rfl), _, (hat28 1 _ rfl), _, (hat28 2 _ rfl), ?_⟩
  obtain ⟨⟨h0_36, h1_37⟩, H⟩ := H
  obtain ⟨a34, ha35, hat33⟩ := Row.at (R1.ext hB) h0_36 h1_37
  refine ⟨h0_36, h1_37, a34, ha35, _, (hat33 0 _ rfl), _, (hat33 1 _ rfl), _, (hat33 2 _ rfl), _, qmX ((rd xs0 i21).Pc) ((rd xs0 i21).Stop) ((rd xs0 i21).Mask) ((rd xs1 i21).Pc) ((rd xs1 i21).Stop) ((rd xs1 i21).Mask), ?_⟩
  have hB := qa5 hB (Ext.drew _)
  refine brc H (fun h H => ?_) fun h H => ?_
  ·cases hr.trans H.symm
   exact ⟨rfl, hB⟩
  obtain ⟨m38, hm39, hJ40⟩ := H
  exact ⟨m38, hm39, _, rfl, hJ40, hB⟩
 cases hr.trans H.symm
 exact ⟨rfl, hB⟩
def qav.vc (A0 : OA) (n0 c0 : Nat) (A1 : OA) (n1 c1 : Nat) (w : World) (K : VK) : Prop :=
  qa1 (((n0 : Nat) : Int) != ((n1 : Nat) : Int)) (K (.bool false) w) (qdA (σ := Int × Unit) (fun z21 w22 next23 => qa1 (decide (z21.1 < ((n0 : Nat) : Int))) ((idx z21.1 n0 A0 fun a24 => ldI w22 ((a24.add ((z21.1.toNat) * 1)).add 0) fun n25 => (idx z21.1 n1 A1 fun a26 => ldI w22 ((a26.add ((z21.1.toNat) * 1)).add 0) fun n27 => qa1 (n25 != n27) (K (.bool false) w22.drew) (next23 ((wrap .i64 (z21.1 + 1)), ()) w22.drew)))) (K (.bool true) w22)) (0, ()) w)

def qav.ann : Ann := (.seq .l (.seq (.seq .l (.two (.seq .l .l) .l)) (.seq (.seq .l (.one (.loop [(13, .int .i64)] (.seq .l (.seq (.two .l .l) (.seq (.one (.seq .l (.seq .l (.two (.seq .l .l) .l)))) .l)))))) (.seq .l .l))))

theorem qav.con {xs0 xs1 : List Int} {A0 A1 : OA} {c0 c1 : Nat} {r : Bool} {w : World} (hp : M.qdI xs0 xs1) (hr : r = M.qav xs0 xs1) (R0 : Row el3 w A0 xs0) (hc0 : xs0.length ≤ c0) (R1 : Row el3 w A1 xs1) (hc1 : xs1.length ≤ c1) :
    Cl 73 #[(sv A0 xs0.length c0), (sv A1 xs1.length c1)] w (fun v_ w_ => v_ = (.bool r) ∧ Ext w w_) := by
 have H := wp.qav.math xs0 xs1 hp
 have hB := Ext.refl w
 refine begK mixed Tryz.f73 ann (vc A0 xs0.length c0 A1 xs1.length c1) ?_
 unfold vc
 unfold wp.qav at H
 refine brc H (fun h H => ?_) fun h H => ?_
 ·cases hr.trans H.symm
  exact ⟨rfl, hB⟩
 obtain ⟨J23, ⟨m45, hJ44⟩, hS24⟩ := H
 refine ⟨fun m_ z_ w_ => ∃ (i21 : Int), z_ = (i21, ()) ∧ J23 m_ (i21, ()) ∧ Ext w w_, ⟨m45, 0, rfl, hJ44, hB⟩, ?_⟩
 rintro m22 _ w26 ⟨i21, rfl, hJ46, hB⟩
 have H := hS24 m22 _ hJ46
 clear hS24 hJ46
 try dsimp only at H ⊢
 refine brc H (fun h H => ?_) fun h H => ?_
 ·obtain ⟨⟨h0_31, h1_32⟩, H⟩ := H
  obtain ⟨a29, ha30, hat28⟩ := Row.at (R0.ext hB) h0_31 h1_32
  refine ⟨h0_31, h1_32, a29, ha30, _, (hat28 0 _ rfl), ?_⟩
  obtain ⟨⟨h0_36, h1_37⟩, H⟩ := H
  obtain ⟨a34, ha35, hat33⟩ := Row.at (R1.ext hB) h0_36 h1_37
  refine ⟨h0_36, h1_37, a34, ha35, _, (hat33 0 _ rfl), ?_⟩
  have hB := qa5 hB (Ext.drew _)
  refine brc H (fun h H => ?_) fun h H => ?_
  ·cases hr.trans H.symm
   exact ⟨rfl, hB⟩
  obtain ⟨m38, hm39, hJ40⟩ := H
  exact ⟨m38, hm39, _, rfl, hJ40, hB⟩
 cases hr.trans H.symm
 exact ⟨rfl, hB⟩
def qc0.vc (x0_0 : Int) (A0_1 : OA) (n0_1 c0_1 : Nat) (A0_2 : OA) (n0_2 c0_2 : Nat) (x1_0 : Int) (A1_1 : OA) (n1_1 c1_1 : Nat) (A1_2 : OA) (n1_2 c1_2 : Nat) (w : World) (K : VK) : Prop :=
  newK w (.cells #[(iv x0_0), (sv A0_1 n0_1 c0_1), (sv A0_2 n0_2 c0_2)] 52) fun g21 w22 => newK w22 (.cells #[(iv x1_0), (sv A1_1 n1_1 c1_1), (sv A1_2 n1_2 c1_2)] 52) fun g23 w24 => ldI w24 (((bx g21).add 0).add 0) fun n25 => ldI w24 (((bx g23).add 0).add 0) fun n26 => qa1 (n25 == n26) (ldS w24 (((bx g21).add 1).add 0) fun A27 n28 c29 => ldS w24 (((bx g23).add 1).add 0) fun A30 n31 c32 => Cl 74 #[(sv A27 n28 c29), (sv A30 n31 c32)] w24 fun v33 w34 => (∃ (b35 : Bool), v33 = (.bool b35) ∧ qa1 b35 (ldS w34 (((bx g21).add 2).add 0) fun A36 n37 c38 => ldS w34 (((bx g23).add 2).add 0) fun A39 n40 c41 => Cl 73 #[(sv A36 n37 c38), (sv A39 n40 c41)] w34 fun v42 w43 => (∃ (b44 : Bool), v42 = (.bool b44) ∧ K (.bool b44) w43)) (K (.bool false) w34))) (K (.bool false) w24)

def qc0.ann : Ann := (.seq .l (.seq .l .l))

theorem qc0.con {s0 s1 : D.Warp} {A0_1 A0_2 A1_1 A1_2 : OA} {c0_1 c0_2 c1_1 c1_2 : Nat} {r : Bool} {w : World} (hp : M.qfU s0 s1) (hr : r = M.qc0 s0 s1) (R0_1 : Row el91 w A0_1 s0.Frames) (hc0_1 : s0.Frames.length ≤ c0_1) (R0_2 : Row el3 w A0_2 s0.Regs) (hc0_2 : s0.Regs.length ≤ c0_2) (R1_1 : Row el91 w A1_1 s1.Frames) (hc1_1 : s1.Frames.length ≤ c1_1) (R1_2 : Row el3 w A1_2 s1.Regs) (hc1_2 : s1.Regs.length ≤ c1_2) :
    Cl 31 #[(.agg (wC A0_1 c0_1 A0_2 c0_2 s0)), (.agg (wC A1_1 c1_1 A1_2 c1_2 s1))] w (fun v_ w_ => v_ = (.bool r) ∧ Ext w w_) := by
 have H := wp.qc0.math s0 s1 hp
 refine begK mixed Tryz.f31 ann (vc s0.Number A0_1 s0.Frames.length c0_1 A0_2 s0.Regs.length c0_2 s1.Number A1_1 s1.Frames.length c1_1 A1_2 s1.Regs.length c1_2) ?_
 unfold vc
 unfold wp.qc0 at H
 refine qax (fun g5_ w21 L5 O5 e22 => ?_)
 refine qax (fun g6_ w23 L6 O6 e24 => ?_)
 have O5 := O5.ext e24
 have hB := qa5 (qa5 (Ext.refl w) e22) e24
 refine ⟨_, (O5.a 0), _, (O6.a 0), ?_⟩
 refine brc H (fun h H => ?_) fun h H => ?_
 ·refine ⟨_, _, _, (O5.a 1), _, _, _, (O6.a 1), ?_⟩
  obtain ⟨hp27, H⟩ := H
  obtain ⟨r25, hr26, H⟩ := qad H
  refine (qah.con hp27 hr26 (R0_1.ext hB) hc0_1 (R1_1.ext hB) hc1_1).mono ?_
  rintro _ w28 ⟨rfl, e29⟩
  have O5 := O5.ext e29
  have O6 := O6.ext e29
  have hB := qa5 hB e29
  refine ⟨r25, rfl, ?_⟩
  refine brc H (fun h H => ?_) fun h H => ?_
  ·refine ⟨_, _, _, (O5.a 2), _, _, _, (O6.a 2), ?_⟩
   obtain ⟨hp32, H⟩ := H
   obtain ⟨r30, hr31, H⟩ := qad H
   refine (qav.con hp32 hr31 (R0_2.ext hB) hc0_2 (R1_2.ext hB) hc1_2).mono ?_
   rintro _ w33 ⟨rfl, e34⟩
   have hB := qa5 hB e34
   refine ⟨r30, rfl, ?_⟩
   cases hr.trans H.symm
   exact ⟨rfl, hB⟩
  cases hr.trans H.symm
  exact ⟨rfl, hB⟩
 cases hr.trans H.symm
 exact ⟨rfl, hB⟩
def qce.vc (A0_0 : OA) (n0_0 c0_0 : Nat) (A0_1 : OA) (n0_1 c0_1 : Nat) (A0_2 : OA) (n0_2 c0_2 : Nat) (x0_3 x0_4 : Int) (A1_0 : OA) (n1_0 c1_0 : Nat) (A1_1 : OA) (n1_1 c1_1 : Nat) (A1_2 : OA) (n1_2 c1_2 : Nat) (x1_3 x1_4 : Int) (w : World) (K : VK) : Prop :=
  newK w (.cells (vB A0_0 n0_0 c0_0 A0_1 n0_1 c0_1 A0_2 n0_2 c0_2 x0_3 x0_4) 33) fun g21 w22 => newK w22 (.cells (vB A1_0 n1_0 c1_0 A1_1 n1_1 c1_1 A1_2 n1_2 c1_2 x1_3 x1_4) 33) fun g23 w24 => ldS w24 (((bx g21).add 0).add 0) fun A25 n26 c27 => ldS w24 (((bx g23).add 0).add 0) fun A28 n29 c30 => Cl 71 #[(sv A25 n26 c27), (sv A28 n29 c30)] w24 fun v31 w32 => (∃ (b33 : Bool), v31 = (.bool b33) ∧ qa1 b33 (ldS w32 (((bx g21).add 1).add 0) fun A34 n35 c36 => ldS w32 (((bx g23).add 1).add 0) fun A37 n38 c39 => Cl 72 #[(sv A34 n35 c36), (sv A37 n38 c39), (.func (.func 31) #[] #[])] w32 fun v40 w41 => (∃ (b42 : Bool), v40 = (.bool b42) ∧ qa1 b42 (ldS w41 (((bx g21).add 2).add 0) fun A43 n44 c45 => ldS w41 (((bx g23).add 2).add 0) fun A46 n47 c48 => Cl 73 #[(sv A43 n44 c45), (sv A46 n47 c48)] w41 fun v49 w50 => (∃ (b51 : Bool), v49 = (.bool b51) ∧ qa1 b51 (ldI w50 (((bx g21).add 3).add 0) fun n52 => ldI w50 (((bx g23).add 3).add 0) fun n53 => qa1 (n52 == n53) (ldI w50 (((bx g21).add 4).add 0) fun n54 => ldI w50 (((bx g23).add 4).add 0) fun n55 => K (.bool (n54 == n55)) w50) (K (.bool false) w50)) (K (.bool false) w50))) (K (.bool false) w41))) (K (.bool false) w32))

def qce.ann : Ann := (.seq .l (.seq .l .l))

theorem qce.con {s0 s1 : D.Block} {A0_0 A0_1 A0_2 A1_0 A1_1 A1_2 : OA} {c0_0 c0_1 c0_2 c1_0 c1_1 c1_2 : Nat} {r : Bool} {w : World} (hp : M.qfy s0 s1) (hr : r = M.qce s0 s1) (R0_0 : Row el84 w A0_0 s0.Code) (hc0_0 : s0.Code.length ≤ c0_0) (R0_1 : RowW 52 el91 el3 w A0_1 s0.Warps) (hc0_1 : s0.Warps.length ≤ c0_1) (R0_2 : Row el3 w A0_2 s0.Memory) (hc0_2 : s0.Memory.length ≤ c0_2) (R1_0 : Row el84 w A1_0 s1.Code) (hc1_0 : s1.Code.length ≤ c1_0) (R1_1 : RowW 52 el91 el3 w A1_1 s1.Warps) (hc1_1 : s1.Warps.length ≤ c1_1) (R1_2 : Row el3 w A1_2 s1.Memory) (hc1_2 : s1.Memory.length ≤ c1_2) :
    Cl 30 #[(.agg (bC A0_0 c0_0 A0_1 c0_1 A0_2 c0_2 s0)), (.agg (bC A1_0 c1_0 A1_1 c1_1 A1_2 c1_2 s1))] w (fun v_ w_ => v_ = (.bool r) ∧ Ext w w_) := by
 have H := wp.qce.math s0 s1 hp
 refine begK mixed Tryz.f30 ann (vc A0_0 s0.Code.length c0_0 A0_1 s0.Warps.length c0_1 A0_2 s0.Memory.length c0_2 s0.Waiting s0.Phase A1_0 s1.Code.length c1_0 A1_1 s1.Warps.length c1_1 A1_2 s1.Memory.length c1_2 s1.Waiting s1.Phase) ?_
 unfold vc
 unfold wp.qce at H
 refine qax (fun g7_ w21 L7 O7 e22 => ?_)
 refine qax (fun g8_ w23 L8 O8 e24 => ?_)
 have O7 := O7.ext e24
 have hB := qa5 (qa5 (Ext.refl w) e22) e24
 refine ⟨_, _, _, (O7.a 0), _, _, _, (O8.a 0), ?_⟩
 obtain ⟨hp27, H⟩ := H
 obtain ⟨r25, hr26, H⟩ := qad H
 refine (qal.con hp27 hr26 (R0_0.ext hB) hc0_0 (R1_0.ext hB) hc1_0).mono ?_
 rintro _ w28 ⟨rfl, e29⟩
 have O7 := O7.ext e29
 have O8 := O8.ext e29
 have hB := qa5 hB e29
 refine ⟨r25, rfl, ?_⟩
 refine brc H (fun h H => ?_) fun h H => ?_
 ·refine ⟨_, _, _, (O7.a 1), _, _, _, (O8.a 1), ?_⟩
  obtain ⟨hp32, H⟩ := H
  obtain ⟨r30, hr31, H⟩ := qad H
  refine (qa4.con hp32 hr31 (R0_1.ext hB) hc0_1 (R1_1.ext hB) hc1_1 (fun z0_ z1_ Az0_1 cz0_1 Az0_2 cz0_2 Az1_1 cz1_1 Az1_2 cz1_2 h_ w_ e_ rz0_1 lz0_1 rz0_2 lz0_2 rz1_1 lz1_1 rz1_2 lz1_2 => qjj (l1 := [_, _]) (l2 := []) (qc0.con h_ rfl rz0_1 lz0_1 rz0_2 lz0_2 rz1_1 lz1_1 rz1_2 lz1_2))).mono ?_
  rintro _ w33 ⟨rfl, e34⟩
  have O7 := O7.ext e34
  have O8 := O8.ext e34
  have hB := qa5 hB e34
  refine ⟨r30, rfl, ?_⟩
  refine brc H (fun h H => ?_) fun h H => ?_
  ·refine ⟨_, _, _, (O7.a 2), _, _, _, (O8.a 2), ?_⟩
   obtain ⟨hp37, H⟩ := H
   obtain ⟨r35, hr36, H⟩ := qad H
   refine (qav.con hp37 hr36 (R0_2.ext hB) hc0_2 (R1_2.ext hB) hc1_2).mono ?_
   rintro _ w38 ⟨rfl, e39⟩
   have O7 := O7.ext e39
   have O8 := O8.ext e39
   have hB := qa5 hB e39
   refine ⟨r35, rfl, ?_⟩
   refine brc H (fun h H => ?_) fun h H => ?_
   ·refine ⟨_, (O7.a 3), _, (O8.a 3), ?_⟩
    refine brc H (fun h H => ?_) fun h H => ?_
    ·refine ⟨_, (O7.a 4), _, (O8.a 4), ?_⟩
     cases hr.trans H.symm
     exact ⟨rfl, hB⟩
    cases hr.trans H.symm
    exact ⟨rfl, hB⟩
   cases hr.trans H.symm
   exact ⟨rfl, hB⟩
  cases hr.trans H.symm
  exact ⟨rfl, hB⟩
 cases hr.trans H.symm
 exact ⟨rfl, hB⟩
def qck.vc (A0 : OA) (n0 c0 : Nat) (x1 : Int) (w : World) (K : VK) : Prop :=
  newK w (.cells #[(iv 0), (sv none 0 0), (sv none 0 0)] 52) fun g21 w22 => Cl 160 #[(sv A0 n0 c0)] w22 fun v24 w25 => (∃ (b26 : Bool), v24 = (.bool b26) ∧ qa1 (!b26) (qa7 (bx g21) [(iv 0), (sv none 0 0), (sv none 0 0)] 0 w25 fun w27 => ldI w27 ((bx g21).add 0) fun n28 => ldS w27 ((bx g21).add 1) fun A29 n30 c31 => ldS w27 ((bx g21).add 2) fun A32 n33 c34 => K (.tuple #[(.agg #[(iv n28), (sv A29 n30 c31), (sv A32 n33 c34)]), (.bool false)]) w27) (Cl 99 #[(iv x1), (iv 0), (iv 2)] w25 fun v35 w36 => (∃ (b37 : Bool), v35 = (.bool b37) ∧ qa1 (!b37) (qa7 (bx g21) [(iv 0), (sv none 0 0), (sv none 0 0)] 0 w36 fun w38 => ldI w38 ((bx g21).add 0) fun n39 => ldS w38 ((bx g21).add 1) fun A40 n41 c42 => ldS w38 ((bx g21).add 2) fun A43 n44 c45 => K (.tuple #[(.agg #[(iv n39), (sv A40 n41 c42), (sv A43 n44 c45)]), (.bool false)]) w38) (qge Tryz.prog 24 32 32 w36 fun g46 w47 => newK w47 (.cells #[(iv 0), (sv none 0 0), (sv none 0 0)] 52) fun g48 w49 => qa7 (bx g48) [(iv x1), (sv none 0 0), (sv (some (bx g46)) ((32 : Int).toNat) ((32 : Int).toNat))] 0 w49 fun w50 => qa1 (decide (((n0 : Nat) : Int) > 0)) (Run Tryz.prog (Instr.buildSlice 50 1 #[(0, (.agg #[(iv 0), (iv ((n0 : Nat) : Int)), (iv 255)]))]) w50 fun v51 w52 => ∃ (A53 : OA) (n54 c55 : Nat), v51 = .slice A53 n54 c55 ∧ qa7 ((bx g48).add 1) [(sv A53 n54 c55)] 0 w52 fun w56 => ldI w56 ((bx g48).add 0) fun n57 => ldS w56 ((bx g48).add 1) fun A58 n59 c60 => ldS w56 ((bx g48).add 2) fun A61 n62 c63 => qa7 (bx g21) [(iv n57), (sv A58 n59 c60), (sv A61 n62 c63)] 0 w56 fun w64 => ldI w64 ((bx g21).add 0) fun n65 => ldS w64 ((bx g21).add 1) fun A66 n67 c68 => ldS w64 ((bx g21).add 2) fun A69 n70 c71 => K (.tuple #[(.agg #[(iv n65), (sv A66 n67 c68), (sv A69 n70 c71)]), (.bool true)]) w64) (ldI w50 ((bx g48).add 0) fun n72 => ldS w50 ((bx g48).add 1) fun A73 n74 c75 => ldS w50 ((bx g48).add 2) fun A76 n77 c78 => qa7 (bx g21) [(iv n72), (sv A73 n74 c75), (sv A76 n77 c78)] 0 w50 fun w79 => ldI w79 ((bx g21).add 0) fun n80 => ldS w79 ((bx g21).add 1) fun A81 n82 c83 => ldS w79 ((bx g21).add 2) fun A84 n85 c86 => K (.tuple #[(.agg #[(iv n80), (sv A81 n82 c83), (sv A84 n85 c86)]), (.bool true)]) w79)))))

def qck.ann : Ann := (.seq .l (.seq (.seq .l (.two (.seq .l .l) .l)) (.seq .l (.seq (.seq .l (.two .l .l)) (.seq .l .l)))))

theorem qck.con {xs0 : List D.Ins} {A0 : OA} {c0 : Nat} {x1 : Int} {r : D.Warp × Bool} {w : World} (hp : M.qgp xs0 x1) (hr : r = M.qck xs0 x1) (R0 : Row el84 w A0 xs0) (hc0 : xs0.length ≤ c0) :
    Cl 161 #[(sv A0 xs0.length c0), (iv x1)] w (fun v_ w_ => ∃ (A0_ : OA) (c0_ : Nat) (A1_ : OA) (c1_ : Nat), v_ = (.tuple #[(.agg (wC A0_ c0_ A1_ c1_ r.1)), (.bool r.2)]) ∧ Own el91 w_ w.heap.size A0_ c0_ r.1.Frames ∧ Own el3 w_ w.heap.size A1_ c1_ r.1.Regs ∧ Ext w w_) := by
 have H := wp.qck.math xs0 x1 hp
 have hB := Ext.refl w
 refine begK mixed Tryz.f161 ann (vc A0 xs0.length c0 x1) ?_
 unfold vc
 unfold wp.qck at H
 refine qax (fun g2_ w21 L2 P2 e22 => ?_)
 have L2 := Nat.le_trans hB.size L2
 have hB := qa5 hB e22
 obtain ⟨hp25, H⟩ := H
 obtain ⟨r23, hr24, H⟩ := qad H
 refine (qb6.con hp25 hr24 (R0.ext hB) hc0).mono ?_
 rintro _ w26 ⟨rfl, e27⟩
 have O2 := P2.ext e27
 have hB := qa5 hB e27
 refine ⟨r23, rfl, ?_⟩
 refine brc H (fun h H => ?_) fun h H => ?_
 ·refine qbI O2 (o := 0) (cs' := #[(iv 0), (sv none 0 0), (sv none 0 0)]) rfl rfl (Nat.le_of_ble_eq_true rfl) rfl (fun w28 O2 e29 => ?_)
  have hB := echg hB e29 L2
  refine ⟨_, (O2.a 0), _, _, _, (O2.a 1), _, _, _, (O2.a 2), ?_⟩
  cases hr.trans H.symm
  exact ⟨none, 0, none, 0, rfl, Own.nil, Own.nil, hB⟩
 obtain ⟨r30, hr31, H⟩ := qad H
 refine (qaQ.con hr31 ).mono ?_
 rintro _ w33 ⟨rfl, e34⟩
 have O2 := O2.ext e34
 have hB := qa5 hB e34
 refine ⟨r30, rfl, ?_⟩
 refine brc H (fun h H => ?_) fun h H => ?_
 ·refine qbI O2 (o := 0) (cs' := #[(iv 0), (sv none 0 0), (sv none 0 0)]) rfl rfl (Nat.le_of_ble_eq_true rfl) rfl (fun w35 O2 e36 => ?_)
  have hB := echg hB e36 L2
  refine ⟨_, (O2.a 0), _, _, _, (O2.a 1), _, _, _, (O2.a 2), ?_⟩
  cases hr.trans H.symm
  exact ⟨none, 0, none, 0, rfl, Own.nil, Own.nil, hB⟩
 obtain ⟨⟨h0_40, h1_41⟩, H⟩ := H
 refine qfZ qdZ h0_40 h1_41 (fun g37 w38 P3 e39 => ?_)
 have N3_2 := P3.qa8 O2.lt
 have O2 := O2.ext e39
 have O3 := P3.mono hB.size
 have hB := qa5 hB e39
 refine qax (fun g4_ w42 L4 P4 e43 => ?_)
 have N2_4 := O2.ne L4
 have N3_4 := O3.qag L4
 have O3 := O3.ext e43
 have O4 := P4
 have L4 := Nat.le_trans hB.size L4
 have hB := qa5 hB e43
 refine stB O4 0 #[(iv x1), (sv none 0 0), (sv (some (bx g37)) ((32 : Int).toNat) ((32 : Int).toNat))] (fun w44 P4 e45 => ?_)
 have O2 := (O2.ext e43).chg e45 N2_4
 have O3_ := O3.chg e45 N3_4
 have O3 := O3_
 have hB := echg hB e45 L4
 have O4 := P4
 refine brc H (fun h H => ?_) fun h H => ?_
 ·refine qap el91 ([(⟨0, (xs0.length : Int), 255⟩ : D.Frame)] : List D.Frame) (fun _ => by kernel_rfl) rfl (fun A46 w47 P5 e48 => ?_)
  have N5_2 := P5.qa8 O2.lt
  have N5_4 := P5.qa8 O4.lt
  have O3 := O3.ext e48
  have O4 := O4.ext e48
  have O5 := P5.mono hB.size
  have hB := qa5 hB e48
  refine qbI O4 (o := 1) (cs' := #[(iv x1), (sv A46 1 1), (sv (some (bx g37)) ((32 : Int).toNat) ((32 : Int).toNat))]) rfl rfl (Nat.le_of_ble_eq_true rfl) rfl (fun w49 O4 e50 => ?_)
  have O2 := (O2.ext e48).chg e50 N2_4
  have O3_ := O3.chg e50 N3_4
  have O5_ := O5.chg e50 N5_4
  have hB := echg hB e50 L4
  refine ⟨_, (O4.a 0), _, _, _, (O4.a 1), _, _, _, (O4.a 2), ?_⟩
  refine qbI O2 (o := 0) (cs' := #[(iv x1), (sv A46 1 1), (sv (some (bx g37)) ((32 : Int).toNat) ((32 : Int).toNat))]) rfl rfl (Nat.le_of_ble_eq_true rfl) rfl (fun w51 O2 e52 => ?_)
  have O3 := O3_.chg e52 N3_2
  have O5 := O5_.chg e52 N5_2
  have hB := echg hB e52 L2
  refine ⟨_, (O2.a 0), _, _, _, (O2.a 1), _, _, _, (O2.a 2), ?_⟩
  cases hr.trans H.symm
  exact ⟨A46, 1, (some (bx g37)), ((32 : Int).toNat), (by first | rfl | (simp; done) | (simp; omega) | (simp [*]; done)), (by first | exact O5 | (simp only [bC, wC, List.length_set]; exact O5)), (by first | exact O3 | (simp only [bC, wC, List.length_set]; exact O3)), hB⟩
 refine ⟨_, (O4.a 0), _, _, _, (O4.a 1), _, _, _, (O4.a 2), ?_⟩
 refine qbI O2 (o := 0) (cs' := #[(iv x1), (sv none 0 0), (sv (some (bx g37)) ((32 : Int).toNat) ((32 : Int).toNat))]) rfl rfl (Nat.le_of_ble_eq_true rfl) rfl (fun w53 O2 e54 => ?_)
 have O3 := O3.chg e54 N3_2
 have hB := echg hB e54 L2
 refine ⟨_, (O2.a 0), _, _, _, (O2.a 1), _, _, _, (O2.a 2), ?_⟩
 cases hr.trans H.symm
 exact ⟨none, 0, (some (bx g37)), ((32 : Int).toNat), (by first | rfl | (simp; done) | (simp; omega) | (simp [*]; done)), Own.nil, (by first | exact O3 | (simp only [bC, wC, List.length_set]; exact O3)), hB⟩
def qbt.vc (A0 : OA) (n0 c0 : Nat) (x1 : Int) (w : World) (K : VK) : Prop :=
  newK w (.cells zC 33) fun g21 w22 => Cl 160 #[(sv A0 n0 c0)] w22 fun v24 w25 => (∃ (b26 : Bool), v24 = (.bool b26) ∧ qa1 (!b26) (qa7 (bx g21) [(sv none 0 0), (sv none 0 0), (sv none 0 0), (iv 0), (iv 0)] 0 w25 fun w27 => ldB w27 (bx g21) fun A28 n29 c30 A31 n32 c33 A34 n35 c36 n37 n38 => K (.tuple #[(.agg (vB A28 n29 c30 A31 n32 c33 A34 n35 c36 n37 n38)), (.bool false)]) w27) (Cl 99 #[(iv x1), (iv 1), (iv 3)] w25 fun v39 w40 => (∃ (b41 : Bool), v39 = (.bool b41) ∧ qa1 (!b41) (qa7 (bx g21) [(sv none 0 0), (sv none 0 0), (sv none 0 0), (iv 0), (iv 0)] 0 w40 fun w42 => ldB w42 (bx g21) fun A43 n44 c45 A46 n47 c48 A49 n50 c51 n52 n53 => K (.tuple #[(.agg (vB A43 n44 c45 A46 n47 c48 A49 n50 c51 n52 n53)), (.bool false)]) w42) (qfL (σ := Addr × Unit) (fun J54 => (∃ M55 : Nat → Prop, ((Run Tryz.prog (Instr.buildSlice 30 0 #[]) w40.drew fun v56 w57 => ∃ (A58 : OA) (n59 c60 : Nat), v56 = .slice A58 n59 c60 ∧ qac M55 w40 w57 ∧ ((Run Tryz.prog (Builtin.append_ #[30, 30] 30 #[(sv A58 n59 c60), (sv A0 n0 c0)]) w57 fun v61 w62 => ∃ (A63 : OA) (n64 c65 : Nat), v61 = .slice A63 n64 c65 ∧ qac M55 w40 w62 ∧ ((qge Tryz.prog 24 32 32 w62 fun g66 w67 => qac M55 w40 w67 ∧ newK w67 (.cells zC 33) fun g68 w69 => qac M55 w40 w69 ∧ qa7 (bx g68) [(sv A63 n64 c65), (sv none 0 0), (sv (some (bx g66)) ((32 : Int).toNat) ((32 : Int).toNat)), (iv 0), (iv 0)] 0 w69 fun w70 => J54 ((bx g68), ()) w70) ∧ (newK w62 (.cells zC 33) fun g71 w72 => qac M55 w40 w72 ∧ qge Tryz.prog 24 32 32 w72 fun g73 w74 => qac M55 w40 w74 ∧ qa7 (bx g71) [(sv A63 n64 c65), (sv none 0 0), (sv (some (bx g73)) ((32 : Int).toNat) ((32 : Int).toNat)), (iv 0), (iv 0)] 0 w74 fun w75 => J54 ((bx g71), ()) w75) ∧ True)) ∧ (qge Tryz.prog 24 32 32 w57 fun g76 w77 => qac M55 w40 w77 ∧ ((Run Tryz.prog (Builtin.append_ #[30, 30] 30 #[(sv A58 n59 c60), (sv A0 n0 c0)]) w77 fun v78 w79 => ∃ (A80 : OA) (n81 c82 : Nat), v78 = .slice A80 n81 c82 ∧ qac M55 w40 w79 ∧ newK w79 (.cells zC 33) fun g83 w84 => qac M55 w40 w84 ∧ qa7 (bx g83) [(sv A80 n81 c82), (sv none 0 0), (sv (some (bx g76)) ((32 : Int).toNat) ((32 : Int).toNat)), (iv 0), (iv 0)] 0 w84 fun w85 => J54 ((bx g83), ()) w85) ∧ (newK w77 (.cells zC 33) fun g86 w87 => qac M55 w40 w87 ∧ Run Tryz.prog (Builtin.append_ #[30, 30] 30 #[(sv A58 n59 c60), (sv A0 n0 c0)]) w87 fun v88 w89 => ∃ (A90 : OA) (n91 c92 : Nat), v88 = .slice A90 n91 c92 ∧ qac M55 w40 w89 ∧ qa7 (bx g86) [(sv A90 n91 c92), (sv none 0 0), (sv (some (bx g76)) ((32 : Int).toNat) ((32 : Int).toNat)), (iv 0), (iv 0)] 0 w89 fun w93 => J54 ((bx g86), ()) w93) ∧ True)) ∧ (newK w57 (.cells zC 33) fun g94 w95 => qac M55 w40 w95 ∧ ((Run Tryz.prog (Builtin.append_ #[30, 30] 30 #[(sv A58 n59 c60), (sv A0 n0 c0)]) w95 fun v96 w97 => ∃ (A98 : OA) (n99 c100 : Nat), v96 = .slice A98 n99 c100 ∧ qac M55 w40 w97 ∧ qge Tryz.prog 24 32 32 w97 fun g101 w102 => qac M55 w40 w102 ∧ qa7 (bx g94) [(sv A98 n99 c100), (sv none 0 0), (sv (some (bx g101)) ((32 : Int).toNat) ((32 : Int).toNat)), (iv 0), (iv 0)] 0 w102 fun w103 => J54 ((bx g94), ()) w103) ∧ (qge Tryz.prog 24 32 32 w95 fun g104 w105 => qac M55 w40 w105 ∧ Run Tryz.prog (Builtin.append_ #[30, 30] 30 #[(sv A58 n59 c60), (sv A0 n0 c0)]) w105 fun v106 w107 => ∃ (A108 : OA) (n109 c110 : Nat), v106 = .slice A108 n109 c110 ∧ qac M55 w40 w107 ∧ qa7 (bx g94) [(sv A108 n109 c110), (sv none 0 0), (sv (some (bx g104)) ((32 : Int).toNat) ((32 : Int).toNat)), (iv 0), (iv 0)] 0 w107 fun w111 => J54 ((bx g94), ()) w111) ∧ True)) ∧ True)) ∧ (qge Tryz.prog 24 32 32 w40.drew fun g112 w113 => qac M55 w40 w113 ∧ ((Run Tryz.prog (Instr.buildSlice 30 0 #[]) w113 fun v114 w115 => ∃ (A116 : OA) (n117 c118 : Nat), v114 = .slice A116 n117 c118 ∧ qac M55 w40 w115 ∧ ((Run Tryz.prog (Builtin.append_ #[30, 30] 30 #[(sv A116 n117 c118), (sv A0 n0 c0)]) w115 fun v119 w120 => ∃ (A121 : OA) (n122 c123 : Nat), v119 = .slice A121 n122 c123 ∧ qac M55 w40 w120 ∧ newK w120 (.cells zC 33) fun g124 w125 => qac M55 w40 w125 ∧ qa7 (bx g124) [(sv A121 n122 c123), (sv none 0 0), (sv (some (bx g112)) ((32 : Int).toNat) ((32 : Int).toNat)), (iv 0), (iv 0)] 0 w125 fun w126 => J54 ((bx g124), ()) w126) ∧ (newK w115 (.cells zC 33) fun g127 w128 => qac M55 w40 w128 ∧ Run Tryz.prog (Builtin.append_ #[30, 30] 30 #[(sv A116 n117 c118), (sv A0 n0 c0)]) w128 fun v129 w130 => ∃ (A131 : OA) (n132 c133 : Nat), v129 = .slice A131 n132 c133 ∧ qac M55 w40 w130 ∧ qa7 (bx g127) [(sv A131 n132 c133), (sv none 0 0), (sv (some (bx g112)) ((32 : Int).toNat) ((32 : Int).toNat)), (iv 0), (iv 0)] 0 w130 fun w134 => J54 ((bx g127), ()) w134) ∧ True)) ∧ (newK w113 (.cells zC 33) fun g135 w136 => qac M55 w40 w136 ∧ Run Tryz.prog (Instr.buildSlice 30 0 #[]) w136 fun v137 w138 => ∃ (A139 : OA) (n140 c141 : Nat), v137 = .slice A139 n140 c141 ∧ qac M55 w40 w138 ∧ Run Tryz.prog (Builtin.append_ #[30, 30] 30 #[(sv A139 n140 c141), (sv A0 n0 c0)]) w138 fun v142 w143 => ∃ (A144 : OA) (n145 c146 : Nat), v142 = .slice A144 n145 c146 ∧ qac M55 w40 w143 ∧ qa7 (bx g135) [(sv A144 n145 c146), (sv none 0 0), (sv (some (bx g112)) ((32 : Int).toNat) ((32 : Int).toNat)), (iv 0), (iv 0)] 0 w143 fun w147 => J54 ((bx g135), ()) w147) ∧ True)) ∧ (newK w40.drew (.cells zC 33) fun g148 w149 => qac M55 w40 w149 ∧ ((Run Tryz.prog (Instr.buildSlice 30 0 #[]) w149 fun v150 w151 => ∃ (A152 : OA) (n153 c154 : Nat), v150 = .slice A152 n153 c154 ∧ qac M55 w40 w151 ∧ ((Run Tryz.prog (Builtin.append_ #[30, 30] 30 #[(sv A152 n153 c154), (sv A0 n0 c0)]) w151 fun v155 w156 => ∃ (A157 : OA) (n158 c159 : Nat), v155 = .slice A157 n158 c159 ∧ qac M55 w40 w156 ∧ qge Tryz.prog 24 32 32 w156 fun g160 w161 => qac M55 w40 w161 ∧ qa7 (bx g148) [(sv A157 n158 c159), (sv none 0 0), (sv (some (bx g160)) ((32 : Int).toNat) ((32 : Int).toNat)), (iv 0), (iv 0)] 0 w161 fun w162 => J54 ((bx g148), ()) w162) ∧ (qge Tryz.prog 24 32 32 w151 fun g163 w164 => qac M55 w40 w164 ∧ Run Tryz.prog (Builtin.append_ #[30, 30] 30 #[(sv A152 n153 c154), (sv A0 n0 c0)]) w164 fun v165 w166 => ∃ (A167 : OA) (n168 c169 : Nat), v165 = .slice A167 n168 c169 ∧ qac M55 w40 w166 ∧ qa7 (bx g148) [(sv A167 n168 c169), (sv none 0 0), (sv (some (bx g163)) ((32 : Int).toNat) ((32 : Int).toNat)), (iv 0), (iv 0)] 0 w166 fun w170 => J54 ((bx g148), ()) w170) ∧ True)) ∧ (qge Tryz.prog 24 32 32 w149 fun g171 w172 => qac M55 w40 w172 ∧ Run Tryz.prog (Instr.buildSlice 30 0 #[]) w172 fun v173 w174 => ∃ (A175 : OA) (n176 c177 : Nat), v173 = .slice A175 n176 c177 ∧ qac M55 w40 w174 ∧ Run Tryz.prog (Builtin.append_ #[30, 30] 30 #[(sv A175 n176 c177), (sv A0 n0 c0)]) w174 fun v178 w179 => ∃ (A180 : OA) (n181 c182 : Nat), v178 = .slice A180 n181 c182 ∧ qac M55 w40 w179 ∧ qa7 (bx g148) [(sv A180 n181 c182), (sv none 0 0), (sv (some (bx g171)) ((32 : Int).toNat) ((32 : Int).toNat)), (iv 0), (iv 0)] 0 w179 fun w183 => J54 ((bx g148), ()) w183) ∧ True)) ∧ True))) fun z184 w185 => qdA (σ := Int × Unit) (fun z186 w187 next188 => qa1 (decide (z186.1 < x1)) (Cl 161 #[(sv A0 n0 c0), (iv z186.1)] w187 fun v189 w190 => (∃ u191 : Value, (∃ (n192 : Int), True ∧ ∃ (A193 : OA) (n194 c195 : Nat), True ∧ ∃ (A196 : OA) (n197 c198 : Nat), True ∧ u191 = (.agg #[(iv n192), (sv A193 n194 c195), (sv A196 n197 c198)]) ∧ ∃ u199 : Value, (∃ (b200 : Bool), u199 = (.bool b200) ∧ v189 = (.tuple #[(.agg #[(iv n192), (sv A193 n194 c195), (sv A196 n197 c198)]), (.bool b200)]) ∧ newK w190 (.cells #[(iv 0), (sv none 0 0), (sv none 0 0)] 52) fun g201 w202 => qa7 (bx g201) [(iv n192), (sv A193 n194 c195), (sv A196 n197 c198)] 0 w202 fun w203 => ldS w203 ((z184.1.add 1).add 0) fun A204 n205 c206 => ldI w203 ((bx g201).add 0) fun n207 => ldS w203 ((bx g201).add 1) fun A208 n209 c210 => ldS w203 ((bx g201).add 2) fun A211 n212 c213 => Run Tryz.prog (Instr.buildSlice 31 1 #[(0, (.agg #[(iv n207), (sv A208 n209 c210), (sv A211 n212 c213)]))]) w203 fun v214 w215 => ∃ (A216 : OA) (n217 c218 : Nat), v214 = .slice A216 n217 c218 ∧ Run Tryz.prog (Builtin.append_ #[31, 31] 31 #[(sv A204 n205 c206), (sv A216 n217 c218)]) w215 fun v219 w220 => ∃ (A221 : OA) (n222 c223 : Nat), v219 = .slice A221 n222 c223 ∧ qa7 (z184.1.add 1) [(sv A221 n222 c223)] 0 w220 fun w224 => next188 ((wrap .i64 (z186.1 + 1)), ()) w224)))) (ldS w187 (z184.1.add 0) fun A225 n226 c227 => ldS w187 (z184.1.add 1) fun A228 n229 c230 => ldS w187 (z184.1.add 2) fun A231 n232 c233 => ldI w187 (z184.1.add 3) fun n234 => ldI w187 (z184.1.add 4) fun n235 => qa7 (bx g21) [(sv A225 n226 c227), (sv A228 n229 c230), (sv A231 n232 c233), (iv n234), (iv n235)] 0 w187 fun w236 => ldB w236 (bx g21) fun A237 n238 c239 A240 n241 c242 A243 n244 c245 n246 n247 => K (.tuple #[(.agg (vB A237 n238 c239 A240 n241 c242 A243 n244 c245 n246 n247)), (.bool true)]) w236)) (0, ()) w185))))

def qbt.ann : Ann := (.seq .l (.seq (.seq .l (.two (.seq .l .l) .l)) (.cut [(6, .ptr)] .l (.seq (.seq .l (.one (.loop [(7, .int .i64)] (.seq (.seq .l (.two .l .l)) (.seq (.one (.seq .l .l)) .l))))) (.seq .l .l)))))

theorem qbt.con {xs0 : List D.Ins} {A0 : OA} {c0 : Nat} {x1 : Int} {r : D.Block × Bool} {w : World} (hp : M.qg4 xs0 x1) (hr : r = M.qbt xs0 x1) (R0 : Row el84 w A0 xs0) (hc0 : xs0.length ≤ c0) :
    Cl 115 #[(sv A0 xs0.length c0), (iv x1)] w (fun v_ w_ => ∃ (A0_ : OA) (c0_ : Nat) (A1_ : OA) (c1_ : Nat) (F1_ : Nat → Prop) (A2_ : OA) (c2_ : Nat), v_ = (.tuple #[(.agg (bC A0_ c0_ A1_ c1_ A2_ c2_ r.1)), (.bool r.2)]) ∧ Own el84 w_ w.heap.size A0_ c0_ r.1.Code ∧ OwnW 52 el91 el3 w_ w.heap.size F1_ A1_ c1_ r.1.Warps ∧ Own el3 w_ w.heap.size A2_ c2_ r.1.Memory ∧ Dis (InW A1_ F1_) (InB A2_) ∧ Ext w w_) := by
 have H := wp.qbt.math xs0 x1 hp
 have hB := Ext.refl w
 refine begK mixed Tryz.f115 ann (vc A0 xs0.length c0 x1) ?_
 unfold vc
 unfold wp.qbt at H
 refine qax (fun g2_ w21 L2 P2 e22 => ?_)
 have L2 := Nat.le_trans hB.size L2
 have hB := qa5 hB e22
 obtain ⟨hp25, H⟩ := H
 obtain ⟨r23, hr24, H⟩ := qad H
 refine (qb6.con hp25 hr24 (R0.ext hB) hc0).mono ?_
 rintro _ w26 ⟨rfl, e27⟩
 have O2 := P2.ext e27
 have hB := qa5 hB e27
 refine ⟨r23, rfl, ?_⟩
 refine brc H (fun h H => ?_) fun h H => ?_
 ·refine qbI O2 (o := 0) (cs' := zC) rfl rfl (Nat.le_of_ble_eq_true rfl) rfl (fun w28 O2 e29 => ?_)
  have hB := echg hB e29 L2
  refine ⟨_, _, _, (O2.a 0), _, _, _, (O2.a 1), _, _, _, (O2.a 2), _, (O2.a 3), _, (O2.a 4), ?_⟩
  cases hr.trans H.symm
  exact ⟨none, 0, none, 0, (fun _ => False), none, 0, rfl, Own.nil, OwnW.nil, Own.nil, qcc, hB⟩
 obtain ⟨r30, hr31, H⟩ := qad H
 refine (qaQ.con hr31 ).mono ?_
 rintro _ w33 ⟨rfl, e34⟩
 have O2 := O2.ext e34
 have hB := qa5 hB e34
 refine ⟨r30, rfl, ?_⟩
 refine brc H (fun h H => ?_) fun h H => ?_
 ·refine qbI O2 (o := 0) (cs' := zC) rfl rfl (Nat.le_of_ble_eq_true rfl) rfl (fun w35 O2 e36 => ?_)
  have hB := echg hB e36 L2
  refine ⟨_, _, _, (O2.a 0), _, _, _, (O2.a 1), _, _, _, (O2.a 2), _, (O2.a 3), _, (O2.a 4), ?_⟩
  cases hr.trans H.symm
  exact ⟨none, 0, none, 0, (fun _ => False), none, 0, rfl, Own.nil, OwnW.nil, Own.nil, qcc, hB⟩
 obtain ⟨K334, hKK334, H⟩ := qcR H
 refine ⟨fun z_ w_ => ∃ (xs37 : List D.Ins) (xs41 : List D.Warp) (xs44 : List Int) (i47 i48 : Int) (g26_ : Nat) (A38 : OA) (c39 : Nat) (A42 : OA) (c43 : Nat) (F40 : Nat → Prop) (A45 : OA) (c46 : Nat), z_ = ((bx g26_), ()) ∧ K334 (xs37, xs41, xs44, i47, i48, ()) ∧ Ext w w_ ∧ Blk w_ g26_ 33 #[(sv A38 xs37.length c39), (sv A42 xs41.length c43), (sv A45 xs44.length c46), (iv i47), (iv i48)] ∧ w.heap.size ≤ g26_ ∧ Own el84 w_ w.heap.size A38 c39 xs37 ∧ OwnW 52 el91 el3 w_ w.heap.size F40 A42 c43 xs41 ∧ Own el3 w_ w.heap.size A45 c46 xs44 ∧ Blk w_ g2_ 33 zC ∧ g2_ ≠ g26_ ∧ Dis (InW A42 F40) (InB A45), ?_, ?_⟩
 ·refine ⟨(fun _ => False), ?_⟩
  refine And.intro ?_ ?_
  ·have H := H.1
   have O2 := O2.ext (Ext.drew _)
   have hB := qa5 hB (Ext.drew _)
   have hS52 := (Chg.refl (fun _ => False) w33).then (Ext.drew _)
   refine qap el84 ([] : List D.Ins) (fun _ => by kernel_rfl) rfl (fun A53 w54 P30 e55 => ?_)
   have N30_2 := P30.qa8 O2.lt
   have O2 := O2.ext e55
   have LB30 := (P30.mono hS52.size).low
   have O30 := P30.mono hB.size
   have hB := qa5 hB e55
   have hS52 := hS52.then e55
   refine ⟨qa2 hS52, ?_⟩
   refine And.intro ?_ ?_
   ·have H := H.1
    obtain ⟨hl60, H⟩ := H
    refine appO qeh O30 (R0.ext hB) hB.size hl60 (fun A56 c57 w58 P30 e59 => ?_)
    have O2 := O2.app e59 N30_2
    have hS52 := hS52.app e59 (fun g h_ => (Or.inl (LB30 g h_)))
    have hB := eapp hB e59 O30
    have O30 := P30
    refine ⟨qa2 hS52, ?_⟩
    refine And.intro ?_ ?_
    ·have H := H.1
     obtain ⟨⟨h0_64, h1_65⟩, H⟩ := H
     refine qfZ qdZ h0_64 h1_65 (fun g61 w62 P31 e63 => ?_)
     have O2 := O2.ext e63
     have O30 := O30.ext e63
     have O31 := P31.mono hB.size
     have hB := qa5 hB e63
     have hS52 := hS52.then e63
     refine ⟨qa2 hS52, ?_⟩
     refine qax (fun g32_ w66 L32 P32 e67 => ?_)
     have N2_32 := O2.ne L32
     have N30_32 := O30.qag L32
     have N31_32 := O31.qag L32
     have O32 := P32
     have L32 := Nat.le_trans hB.size L32
     have hB := qa5 hB e67
     have hS52 := hS52.then e67
     refine ⟨qa2 hS52, ?_⟩
     refine qbI O32 (o := 0) (cs' := #[(sv A56 (((([] : List D.Ins) ++ xs0)).length) c57), (sv none 0 0), (sv (some (bx g61)) ((32 : Int).toNat) ((32 : Int).toNat)), (iv 0), (iv 0)]) rfl rfl (Nat.le_of_ble_eq_true rfl) rfl (fun w68 O32 e69 => ?_)
     have O2 := (O2.ext e67).chg e69 N2_32
     have O30 := (O30.ext e67).chg e69 N30_32
     have O31 := (O31.ext e67).chg e69 N31_32
     have hB := echg hB e69 L32
     exact ⟨_, [], _, 0, 0, g32_, A56, c57, none, 0, (fun _ => False), _, _, rfl, H, hB, (by first | exact O32 | (simp only [bC, wC, List.length_set]; exact O32)), L32, O30, OwnW.nil, O31, O2, N2_32, qcc⟩
    refine And.intro ?_ ?_
    ·have H := H.2.1
     refine qax (fun g33_ w70 L33 P33 e71 => ?_)
     have N2_33 := O2.ne L33
     have N30_33 := O30.qag L33
     have O33 := P33
     have L33 := Nat.le_trans hB.size L33
     have hB := qa5 hB e71
     have hS52 := hS52.then e71
     refine ⟨qa2 hS52, ?_⟩
     obtain ⟨⟨h0_75, h1_76⟩, H⟩ := H
     refine qfZ qdZ h0_75 h1_76 (fun g72 w73 P34 e74 => ?_)
     have N34_33 := P34.qa8 O33.lt
     have O33 := O33.ext e74
     have O34 := P34.mono hB.size
     have hB := qa5 hB e74
     have hS52 := hS52.then e74
     refine ⟨qa2 hS52, ?_⟩
     refine qbI O33 (o := 0) (cs' := #[(sv A56 (((([] : List D.Ins) ++ xs0)).length) c57), (sv none 0 0), (sv (some (bx g72)) ((32 : Int).toNat) ((32 : Int).toNat)), (iv 0), (iv 0)]) rfl rfl (Nat.le_of_ble_eq_true rfl) rfl (fun w77 O33 e78 => ?_)
     have O2 := ((O2.ext e71).ext e74).chg e78 N2_33
     have O30 := ((O30.ext e71).ext e74).chg e78 N30_33
     have O34 := O34.chg e78 N34_33
     have hB := echg hB e78 L33
     exact ⟨_, [], _, 0, 0, g33_, A56, c57, none, 0, (fun _ => False), _, _, rfl, H, hB, (by first | exact O33 | (simp only [bC, wC, List.length_set]; exact O33)), L33, O30, OwnW.nil, O34, O2, N2_33, qcc⟩
    exact trivial
   refine And.intro ?_ ?_
   ·have H := H.2.1
    obtain ⟨⟨h0_82, h1_83⟩, H⟩ := H
    refine qfZ qdZ h0_82 h1_83 (fun g79 w80 P35 e81 => ?_)
    have N30_35 := aN O30 P35
    have O2 := O2.ext e81
    have O30 := O30.ext e81
    have O35 := P35.mono hB.size
    have hB := qa5 hB e81
    have hS52 := hS52.then e81
    refine ⟨qa2 hS52, ?_⟩
    refine And.intro ?_ ?_
    ·have H := H.1
     obtain ⟨hl88, H⟩ := H
     refine appO qeh O30 (R0.ext hB) hB.size hl88 (fun A84 c85 w86 P30 e87 => ?_)
     have O2 := O2.app e87 N30_2
     have O35 := O35.app e87 (N30_35).symm
     have hS52 := hS52.app e87 (fun g h_ => (Or.inl (LB30 g h_)))
     have hB := eapp hB e87 O30
     have O30 := P30
     refine ⟨qa2 hS52, ?_⟩
     refine qax (fun g36_ w89 L36 P36 e90 => ?_)
     have N2_36 := O2.ne L36
     have N30_36 := O30.qag L36
     have N35_36 := O35.qag L36
     have O36 := P36
     have L36 := Nat.le_trans hB.size L36
     have hB := qa5 hB e90
     have hS52 := hS52.then e90
     refine ⟨qa2 hS52, ?_⟩
     refine qbI O36 (o := 0) (cs' := #[(sv A84 (((([] : List D.Ins) ++ xs0)).length) c85), (sv none 0 0), (sv (some (bx g79)) ((32 : Int).toNat) ((32 : Int).toNat)), (iv 0), (iv 0)]) rfl rfl (Nat.le_of_ble_eq_true rfl) rfl (fun w91 O36 e92 => ?_)
     have O2 := (O2.ext e90).chg e92 N2_36
     have O30 := (O30.ext e90).chg e92 N30_36
     have O35 := (O35.ext e90).chg e92 N35_36
     have hB := echg hB e92 L36
     exact ⟨_, [], _, 0, 0, g36_, A84, c85, none, 0, (fun _ => False), _, _, rfl, H, hB, (by first | exact O36 | (simp only [bC, wC, List.length_set]; exact O36)), L36, O30, OwnW.nil, O35, O2, N2_36, qcc⟩
    refine And.intro ?_ ?_
    ·have H := H.2.1
     refine qax (fun g37_ w93 L37 P37 e94 => ?_)
     have N2_37 := O2.ne L37
     have N30_37 := O30.qag L37
     have N35_37 := O35.qag L37
     have O30 := O30.ext e94
     have O37 := P37
     have L37 := Nat.le_trans hB.size L37
     have hB := qa5 hB e94
     have hS52 := hS52.then e94
     refine ⟨qa2 hS52, ?_⟩
     obtain ⟨hl99, H⟩ := H
     refine appO qeh O30 (R0.ext hB) hB.size hl99 (fun A95 c96 w97 P30 e98 => ?_)
     have N30_37_ := Apart.app N30_37 e98 O37.lt
     have O37 := O37.app e98 N30_37
     have N30_37 := N30_37_
     have hS52 := hS52.app e98 (fun g h_ => (Or.inl (LB30 g h_)))
     have hB := eapp hB e98 O30
     refine ⟨qa2 hS52, ?_⟩
     refine qbI O37 (o := 0) (cs' := #[(sv A95 (((([] : List D.Ins) ++ xs0)).length) c96), (sv none 0 0), (sv (some (bx g79)) ((32 : Int).toNat) ((32 : Int).toNat)), (iv 0), (iv 0)]) rfl rfl (Nat.le_of_ble_eq_true rfl) rfl (fun w100 O37 e101 => ?_)
     have O2 := ((O2.ext e94).app e98 N30_2).chg e101 N2_37
     have O30 := P30.chg e101 N30_37
     have O35 := ((O35.ext e94).app e98 (N30_35).symm).chg e101 N35_37
     have hB := echg hB e101 L37
     exact ⟨_, [], _, 0, 0, g37_, A95, c96, none, 0, (fun _ => False), _, _, rfl, H, hB, (by first | exact O37 | (simp only [bC, wC, List.length_set]; exact O37)), L37, O30, OwnW.nil, O35, O2, N2_37, qcc⟩
    exact trivial
   refine And.intro ?_ ?_
   ·have H := H.2.2.1
    refine qax (fun g38_ w102 L38 P38 e103 => ?_)
    have N2_38 := O2.ne L38
    have N30_38 := O30.qag L38
    have O2 := O2.ext e103
    have O30 := O30.ext e103
    have O38 := P38
    have L38 := Nat.le_trans hB.size L38
    have hB := qa5 hB e103
    have hS52 := hS52.then e103
    refine ⟨qa2 hS52, ?_⟩
    refine And.intro ?_ ?_
    ·have H := H.1
     obtain ⟨hl108, H⟩ := H
     refine appO qeh O30 (R0.ext hB) hB.size hl108 (fun A104 c105 w106 P30 e107 => ?_)
     have N30_38_ := Apart.app N30_38 e107 O38.lt
     have O38 := O38.app e107 N30_38
     have N30_38 := N30_38_
     have hS52 := hS52.app e107 (fun g h_ => (Or.inl (LB30 g h_)))
     have hB := eapp hB e107 O30
     refine ⟨qa2 hS52, ?_⟩
     obtain ⟨⟨h0_112, h1_113⟩, H⟩ := H
     refine qfZ qdZ h0_112 h1_113 (fun g109 w110 P39 e111 => ?_)
     have N39_38 := P39.qa8 O38.lt
     have O38 := O38.ext e111
     have O39 := P39.mono hB.size
     have hB := qa5 hB e111
     have hS52 := hS52.then e111
     refine ⟨qa2 hS52, ?_⟩
     refine qbI O38 (o := 0) (cs' := #[(sv A104 (((([] : List D.Ins) ++ xs0)).length) c105), (sv none 0 0), (sv (some (bx g109)) ((32 : Int).toNat) ((32 : Int).toNat)), (iv 0), (iv 0)]) rfl rfl (Nat.le_of_ble_eq_true rfl) rfl (fun w114 O38 e115 => ?_)
     have O2 := ((O2.app e107 N30_2).ext e111).chg e115 N2_38
     have O30 := (P30.ext e111).chg e115 N30_38
     have O39 := O39.chg e115 N39_38
     have hB := echg hB e115 L38
     exact ⟨_, [], _, 0, 0, g38_, A104, c105, none, 0, (fun _ => False), _, _, rfl, H, hB, (by first | exact O38 | (simp only [bC, wC, List.length_set]; exact O38)), L38, O30, OwnW.nil, O39, O2, N2_38, qcc⟩
    refine And.intro ?_ ?_
    ·have H := H.2.1
     obtain ⟨⟨h0_119, h1_120⟩, H⟩ := H
     refine qfZ qdZ h0_119 h1_120 (fun g116 w117 P40 e118 => ?_)
     have N30_40 := aN O30 P40
     have N40_38 := P40.qa8 O38.lt
     have O30 := O30.ext e118
     have O38 := O38.ext e118
     have O40 := P40.mono hB.size
     have hB := qa5 hB e118
     have hS52 := hS52.then e118
     refine ⟨qa2 hS52, ?_⟩
     obtain ⟨hl125, H⟩ := H
     refine appO qeh O30 (R0.ext hB) hB.size hl125 (fun A121 c122 w123 P30 e124 => ?_)
     have N30_38_ := Apart.app N30_38 e124 O38.lt
     have O38 := O38.app e124 N30_38
     have N30_38 := N30_38_
     have hS52 := hS52.app e124 (fun g h_ => (Or.inl (LB30 g h_)))
     have hB := eapp hB e124 O30
     refine ⟨qa2 hS52, ?_⟩
     refine qbI O38 (o := 0) (cs' := #[(sv A121 (((([] : List D.Ins) ++ xs0)).length) c122), (sv none 0 0), (sv (some (bx g116)) ((32 : Int).toNat) ((32 : Int).toNat)), (iv 0), (iv 0)]) rfl rfl (Nat.le_of_ble_eq_true rfl) rfl (fun w126 O38 e127 => ?_)
     have O2 := ((O2.ext e118).app e124 N30_2).chg e127 N2_38
     have O30 := P30.chg e127 N30_38
     have O40 := (O40.app e124 (N30_40).symm).chg e127 N40_38
     have hB := echg hB e127 L38
     exact ⟨_, [], _, 0, 0, g38_, A121, c122, none, 0, (fun _ => False), _, _, rfl, H, hB, (by first | exact O38 | (simp only [bC, wC, List.length_set]; exact O38)), L38, O30, OwnW.nil, O40, O2, N2_38, qcc⟩
    exact trivial
   exact trivial
  refine And.intro ?_ ?_
  ·have H := H.2.1
   have hB := qa5 hB (Ext.drew _)
   obtain ⟨⟨h0_131, h1_132⟩, H⟩ := H
   refine qfZ qdZ h0_131 h1_132 (fun g128 w129 P41 e130 => ?_)
   have O2 := (O2.ext (Ext.drew _)).ext e130
   have O41 := P41.mono hB.size
   have hB := qa5 hB e130
   have hS52 := ((Chg.refl (fun _ => False) w33).then (Ext.drew _)).then e130
   refine ⟨qa2 hS52, ?_⟩
   refine And.intro ?_ ?_
   ·have H := H.1
    refine qap el84 ([] : List D.Ins) (fun _ => by kernel_rfl) rfl (fun A133 w134 P42 e135 => ?_)
    have N42_2 := P42.qa8 O2.lt
    have N41_42 := aN O41 P42
    have O2 := O2.ext e135
    have O41 := O41.ext e135
    have LB42 := (P42.mono hS52.size).low
    have O42 := P42.mono hB.size
    have hB := qa5 hB e135
    have hS52 := hS52.then e135
    refine ⟨qa2 hS52, ?_⟩
    refine And.intro ?_ ?_
    ·have H := H.1
     obtain ⟨hl140, H⟩ := H
     refine appO qeh O42 (R0.ext hB) hB.size hl140 (fun A136 c137 w138 P42 e139 => ?_)
     have O2 := O2.app e139 N42_2
     have O41 := O41.app e139 N41_42
     have hS52 := hS52.app e139 (fun g h_ => (Or.inl (LB42 g h_)))
     have hB := eapp hB e139 O42
     have O42 := P42
     refine ⟨qa2 hS52, ?_⟩
     refine qax (fun g43_ w141 L43 P43 e142 => ?_)
     have N2_43 := O2.ne L43
     have N41_43 := O41.qag L43
     have N42_43 := O42.qag L43
     have O43 := P43
     have L43 := Nat.le_trans hB.size L43
     have hB := qa5 hB e142
     have hS52 := hS52.then e142
     refine ⟨qa2 hS52, ?_⟩
     refine qbI O43 (o := 0) (cs' := #[(sv A136 (((([] : List D.Ins) ++ xs0)).length) c137), (sv none 0 0), (sv (some (bx g128)) ((32 : Int).toNat) ((32 : Int).toNat)), (iv 0), (iv 0)]) rfl rfl (Nat.le_of_ble_eq_true rfl) rfl (fun w143 O43 e144 => ?_)
     have O2 := (O2.ext e142).chg e144 N2_43
     have O41 := (O41.ext e142).chg e144 N41_43
     have O42 := (O42.ext e142).chg e144 N42_43
     have hB := echg hB e144 L43
     exact ⟨_, [], _, 0, 0, g43_, A136, c137, none, 0, (fun _ => False), _, _, rfl, H, hB, (by first | exact O43 | (simp only [bC, wC, List.length_set]; exact O43)), L43, O42, OwnW.nil, O41, O2, N2_43, qcc⟩
    refine And.intro ?_ ?_
    ·have H := H.2.1
     refine qax (fun g44_ w145 L44 P44 e146 => ?_)
     have N2_44 := O2.ne L44
     have N41_44 := O41.qag L44
     have N42_44 := O42.qag L44
     have O42 := O42.ext e146
     have O44 := P44
     have L44 := Nat.le_trans hB.size L44
     have hB := qa5 hB e146
     have hS52 := hS52.then e146
     refine ⟨qa2 hS52, ?_⟩
     obtain ⟨hl151, H⟩ := H
     refine appO qeh O42 (R0.ext hB) hB.size hl151 (fun A147 c148 w149 P42 e150 => ?_)
     have N42_44_ := Apart.app N42_44 e150 O44.lt
     have O44 := O44.app e150 N42_44
     have N42_44 := N42_44_
     have hS52 := hS52.app e150 (fun g h_ => (Or.inl (LB42 g h_)))
     have hB := eapp hB e150 O42
     refine ⟨qa2 hS52, ?_⟩
     refine qbI O44 (o := 0) (cs' := #[(sv A147 (((([] : List D.Ins) ++ xs0)).length) c148), (sv none 0 0), (sv (some (bx g128)) ((32 : Int).toNat) ((32 : Int).toNat)), (iv 0), (iv 0)]) rfl rfl (Nat.le_of_ble_eq_true rfl) rfl (fun w152 O44 e153 => ?_)
     have O2 := ((O2.ext e146).app e150 N42_2).chg e153 N2_44
     have O41 := ((O41.ext e146).app e150 N41_42).chg e153 N41_44
     have O42 := P42.chg e153 N42_44
     have hB := echg hB e153 L44
     exact ⟨_, [], _, 0, 0, g44_, A147, c148, none, 0, (fun _ => False), _, _, rfl, H, hB, (by first | exact O44 | (simp only [bC, wC, List.length_set]; exact O44)), L44, O42, OwnW.nil, O41, O2, N2_44, qcc⟩
    exact trivial
   refine And.intro ?_ ?_
   ·have H := H.2.1
    refine qax (fun g45_ w154 L45 P45 e155 => ?_)
    have N2_45 := O2.ne L45
    have N41_45 := O41.qag L45
    have O2 := O2.ext e155
    have O41 := O41.ext e155
    have O45 := P45
    have L45 := Nat.le_trans hB.size L45
    have hB := qa5 hB e155
    have hS52 := hS52.then e155
    refine ⟨qa2 hS52, ?_⟩
    refine qap el84 ([] : List D.Ins) (fun _ => by kernel_rfl) rfl (fun A156 w157 P46 e158 => ?_)
    have N46_2 := P46.qa8 O2.lt
    have N41_46 := aN O41 P46
    have N46_45 := P46.qa8 O45.lt
    have O45 := O45.ext e158
    have LB46 := (P46.mono hS52.size).low
    have O46 := P46.mono hB.size
    have hB := qa5 hB e158
    have hS52 := hS52.then e158
    refine ⟨qa2 hS52, ?_⟩
    obtain ⟨hl163, H⟩ := H
    refine appO qeh O46 (R0.ext hB) hB.size hl163 (fun A159 c160 w161 P46 e162 => ?_)
    have N46_45_ := Apart.app N46_45 e162 O45.lt
    have O45 := O45.app e162 N46_45
    have N46_45 := N46_45_
    have hS52 := hS52.app e162 (fun g h_ => (Or.inl (LB46 g h_)))
    have hB := eapp hB e162 O46
    refine ⟨qa2 hS52, ?_⟩
    refine qbI O45 (o := 0) (cs' := #[(sv A159 (((([] : List D.Ins) ++ xs0)).length) c160), (sv none 0 0), (sv (some (bx g128)) ((32 : Int).toNat) ((32 : Int).toNat)), (iv 0), (iv 0)]) rfl rfl (Nat.le_of_ble_eq_true rfl) rfl (fun w164 O45 e165 => ?_)
    have O2 := ((O2.ext e158).app e162 N46_2).chg e165 N2_45
    have O41 := ((O41.ext e158).app e162 N41_46).chg e165 N41_45
    have O46 := P46.chg e165 N46_45
    have hB := echg hB e165 L45
    exact ⟨_, [], _, 0, 0, g45_, A159, c160, none, 0, (fun _ => False), _, _, rfl, H, hB, (by first | exact O45 | (simp only [bC, wC, List.length_set]; exact O45)), L45, O46, OwnW.nil, O41, O2, N2_45, qcc⟩
   exact trivial
  refine And.intro ?_ ?_
  ·have H := H.2.2.1
   have O2 := O2.ext (Ext.drew _)
   have hB := qa5 hB (Ext.drew _)
   refine qax (fun g47_ w166 L47 P47 e167 => ?_)
   have N2_47 := O2.ne L47
   have O2 := O2.ext e167
   have O47 := P47
   have L47 := Nat.le_trans hB.size L47
   have hB := qa5 hB e167
   have hS52 := ((Chg.refl (fun _ => False) w33).then (Ext.drew _)).then e167
   refine ⟨qa2 hS52, ?_⟩
   refine And.intro ?_ ?_
   ·have H := H.1
    refine qap el84 ([] : List D.Ins) (fun _ => by kernel_rfl) rfl (fun A168 w169 P48 e170 => ?_)
    have N48_2 := P48.qa8 O2.lt
    have N48_47 := P48.qa8 O47.lt
    have O2 := O2.ext e170
    have O47 := O47.ext e170
    have LB48 := (P48.mono hS52.size).low
    have O48 := P48.mono hB.size
    have hB := qa5 hB e170
    have hS52 := hS52.then e170
    refine ⟨qa2 hS52, ?_⟩
    refine And.intro ?_ ?_
    ·have H := H.1
     obtain ⟨hl175, H⟩ := H
     refine appO qeh O48 (R0.ext hB) hB.size hl175 (fun A171 c172 w173 P48 e174 => ?_)
     have N48_47_ := Apart.app N48_47 e174 O47.lt
     have O47 := O47.app e174 N48_47
     have N48_47 := N48_47_
     have hS52 := hS52.app e174 (fun g h_ => (Or.inl (LB48 g h_)))
     have hB := eapp hB e174 O48
     refine ⟨qa2 hS52, ?_⟩
     obtain ⟨⟨h0_179, h1_180⟩, H⟩ := H
     refine qfZ qdZ h0_179 h1_180 (fun g176 w177 P49 e178 => ?_)
     have N49_47 := P49.qa8 O47.lt
     have O47 := O47.ext e178
     have O49 := P49.mono hB.size
     have hB := qa5 hB e178
     have hS52 := hS52.then e178
     refine ⟨qa2 hS52, ?_⟩
     refine qbI O47 (o := 0) (cs' := #[(sv A171 (((([] : List D.Ins) ++ xs0)).length) c172), (sv none 0 0), (sv (some (bx g176)) ((32 : Int).toNat) ((32 : Int).toNat)), (iv 0), (iv 0)]) rfl rfl (Nat.le_of_ble_eq_true rfl) rfl (fun w181 O47 e182 => ?_)
     have O2 := ((O2.app e174 N48_2).ext e178).chg e182 N2_47
     have O48 := (P48.ext e178).chg e182 N48_47
     have O49 := O49.chg e182 N49_47
     have hB := echg hB e182 L47
     exact ⟨_, [], _, 0, 0, g47_, A171, c172, none, 0, (fun _ => False), _, _, rfl, H, hB, (by first | exact O47 | (simp only [bC, wC, List.length_set]; exact O47)), L47, O48, OwnW.nil, O49, O2, N2_47, qcc⟩
    refine And.intro ?_ ?_
    ·have H := H.2.1
     obtain ⟨⟨h0_186, h1_187⟩, H⟩ := H
     refine qfZ qdZ h0_186 h1_187 (fun g183 w184 P50 e185 => ?_)
     have N50_47 := P50.qa8 O47.lt
     have N48_50 := aN O48 P50
     have O47 := O47.ext e185
     have O48 := O48.ext e185
     have O50 := P50.mono hB.size
     have hB := qa5 hB e185
     have hS52 := hS52.then e185
     refine ⟨qa2 hS52, ?_⟩
     obtain ⟨hl192, H⟩ := H
     refine appO qeh O48 (R0.ext hB) hB.size hl192 (fun A188 c189 w190 P48 e191 => ?_)
     have N48_47_ := Apart.app N48_47 e191 O47.lt
     have O47 := O47.app e191 N48_47
     have N48_47 := N48_47_
     have hS52 := hS52.app e191 (fun g h_ => (Or.inl (LB48 g h_)))
     have hB := eapp hB e191 O48
     refine ⟨qa2 hS52, ?_⟩
     refine qbI O47 (o := 0) (cs' := #[(sv A188 (((([] : List D.Ins) ++ xs0)).length) c189), (sv none 0 0), (sv (some (bx g183)) ((32 : Int).toNat) ((32 : Int).toNat)), (iv 0), (iv 0)]) rfl rfl (Nat.le_of_ble_eq_true rfl) rfl (fun w193 O47 e194 => ?_)
     have O2 := ((O2.ext e185).app e191 N48_2).chg e194 N2_47
     have O48 := P48.chg e194 N48_47
     have O50 := (O50.app e191 (N48_50).symm).chg e194 N50_47
     have hB := echg hB e194 L47
     exact ⟨_, [], _, 0, 0, g47_, A188, c189, none, 0, (fun _ => False), _, _, rfl, H, hB, (by first | exact O47 | (simp only [bC, wC, List.length_set]; exact O47)), L47, O48, OwnW.nil, O50, O2, N2_47, qcc⟩
    exact trivial
   refine And.intro ?_ ?_
   ·have H := H.2.1
    obtain ⟨⟨h0_198, h1_199⟩, H⟩ := H
    refine qfZ qdZ h0_198 h1_199 (fun g195 w196 P51 e197 => ?_)
    have N51_47 := P51.qa8 O47.lt
    have O2 := O2.ext e197
    have O47 := O47.ext e197
    have O51 := P51.mono hB.size
    have hB := qa5 hB e197
    have hS52 := hS52.then e197
    refine ⟨qa2 hS52, ?_⟩
    refine qap el84 ([] : List D.Ins) (fun _ => by kernel_rfl) rfl (fun A200 w201 P52 e202 => ?_)
    have N52_2 := P52.qa8 O2.lt
    have N52_47 := P52.qa8 O47.lt
    have N51_52 := aN O51 P52
    have O47 := O47.ext e202
    have LB52 := (P52.mono hS52.size).low
    have O52 := P52.mono hB.size
    have hB := qa5 hB e202
    have hS52 := hS52.then e202
    refine ⟨qa2 hS52, ?_⟩
    obtain ⟨hl207, H⟩ := H
    refine appO qeh O52 (R0.ext hB) hB.size hl207 (fun A203 c204 w205 P52 e206 => ?_)
    have N52_47_ := Apart.app N52_47 e206 O47.lt
    have O47 := O47.app e206 N52_47
    have N52_47 := N52_47_
    have hS52 := hS52.app e206 (fun g h_ => (Or.inl (LB52 g h_)))
    have hB := eapp hB e206 O52
    refine ⟨qa2 hS52, ?_⟩
    refine qbI O47 (o := 0) (cs' := #[(sv A203 (((([] : List D.Ins) ++ xs0)).length) c204), (sv none 0 0), (sv (some (bx g195)) ((32 : Int).toNat) ((32 : Int).toNat)), (iv 0), (iv 0)]) rfl rfl (Nat.le_of_ble_eq_true rfl) rfl (fun w208 O47 e209 => ?_)
    have O2 := ((O2.ext e202).app e206 N52_2).chg e209 N2_47
    have O51 := ((O51.ext e202).app e206 N51_52).chg e209 N51_47
    have O52 := P52.chg e209 N52_47
    have hB := echg hB e209 L47
    exact ⟨_, [], _, 0, 0, g47_, A203, c204, none, 0, (fun _ => False), _, _, rfl, H, hB, (by first | exact O47 | (simp only [bC, wC, List.length_set]; exact O47)), L47, O52, OwnW.nil, O51, O2, N2_47, qcc⟩
   exact trivial
  exact trivial
 rintro _ w50 ⟨xs37, xs41, xs44, i47, i48, g26_, A38, c39, A42, c43, F40, A45, c46, rfl, H, hB, O26, L26, O27, O28, O29, O2, N2_26, N28_29⟩
 have H := hKK334 _ H
 try dsimp only at H ⊢
 obtain ⟨J291, ⟨m331, hJ330⟩, hS292⟩ := H
 refine ⟨fun m_ z_ w_ => ∃ (i283 : Int) (xs285 : List D.Warp) (i288 i289 : Int) (A286 : OA) (c287 : Nat) (F284 : Nat → Prop), z_ = (i283, ()) ∧ J291 m_ (i283, xs285, i288, i289, ()) ∧ Ext w w_ ∧ Blk w_ g26_ 33 #[(sv A38 xs37.length c39), (sv A286 xs285.length c287), (sv A45 xs44.length c46), (iv i288), (iv i289)] ∧ OwnW 52 el91 el3 w_ w.heap.size F284 A286 c287 xs285 ∧ Blk w_ g2_ 33 zC ∧ Own el84 w_ w.heap.size A38 c39 xs37 ∧ Own el3 w_ w.heap.size A45 c46 xs44 ∧ Dis (InW A286 F284) (InB A45), ⟨m331, 0, xs41, i47, i48, A42, c43, F40, rfl, hJ330, hB, O26, O28, O2, O27, O29, N28_29⟩, ?_⟩
 rintro m290 _ w294 ⟨i283, xs285, i288, i289, A286, c287, F284, rfl, hJ332, hB, O26, O61, O2, O27, O29, N61_29⟩
 have H := hS292 m290 _ hJ332
 clear hS292 hJ332
 try dsimp only at H ⊢
 refine brc H (fun h H => ?_) fun h H => ?_
 ·obtain ⟨hp297, H⟩ := H
  obtain ⟨r295, hr296, H⟩ := qad H
  refine (qck.con hp297 hr296 (R0.ext hB) hc0).mono ?_
  rintro _ w298 ⟨A300, c301, A302, c303, rfl, P62, P63, e299⟩
  have N29_62 := aN O29 P62
  have N61_62 := O61.qf0 P62 (Nat.le_refl _)
  have N29_63 := aN O29 P63
  have N61_63 := O61.qf0 P63 (Nat.le_refl _)
  have O2 := O2.ext e299
  have O26 := O26.ext e299
  have O27 := O27.ext e299
  have O29 := O29.ext e299
  have O61 := O61.ext e299
  have O62 := P62.mono hB.size
  have O63 := P63.mono hB.size
  have hB := qa5 hB e299
  refine ⟨(.agg (wC A300 c301 A302 c303 r295.1)), r295.1.Number, trivial, A300, r295.1.Frames.length, c301, trivial, A302, r295.1.Regs.length, c303, trivial, rfl, (.bool r295.2), r295.2, rfl, rfl, ?_⟩
  refine qax (fun g64_ w304 L64 P64 e305 => ?_)
  have N2_64 := O2.ne L64
  have N26_64 := O26.ne L64
  have N27_64 := O27.qag L64
  have N29_64 := O29.qag L64
  have N61_64 := O61.qcv L64
  have N62_64 := O62.qag L64
  have N63_64 := O63.qag L64
  have O2 := O2.ext e305
  have O27 := O27.ext e305
  have O29 := O29.ext e305
  have O61 := O61.ext e305
  have O64 := P64
  have L64 := Nat.le_trans hB.size L64
  have hB := qa5 hB e305
  refine qbI O64 (o := 0) (cs' := (wC A300 c301 A302 c303 r295.1)) rfl rfl (Nat.le_of_ble_eq_true rfl) rfl (fun w306 O64 e307 => ?_)
  have O2_ := O2.chg e307 N2_64
  have O26 := (O26.ext e305).chg e307 N26_64
  have O27_ := O27.chg e307 N27_64
  have O29_ := O29.chg e307 N29_64
  have O61_ := O61.chg e307 N61_64
  have O62 := (O62.ext e305).chg e307 N62_64
  have O63 := (O63.ext e305).chg e307 N63_64
  have O29 := O29_
  have O61 := O61_
  have hB := echg hB e307 L64
  refine ⟨_, _, _, (O26.a 1), _, (O64.a 0), _, _, _, (O64.a 1), _, _, _, (O64.a 2), ?_⟩
  refine qap (elH 52) ([⟨r295.1, A300, c301, A302, c303⟩] : List HW) (fun _ => by kernel_rfl) rfl (fun A308 w309 P65 e310 => ?_)
  have Q65 : OwnW 52 el91 el3 _ _ _ _ _ _ := OwnW.one (P65.mono hB.size) (O62.ext e310) (O63.ext e310)
  have N65_29 : Dis (InW A308 (fun g => InB A300 g ∨ InB A302 g)) (InB A45) := fun g h_ hx_ => h_.elim (fun h_ => (Own.qep O29 P65 (Nat.le_refl _)).inb g hx_ h_) (fun h_ => h_.elim (fun h_ => ((N29_62).symm).inb g h_ hx_) (fun h_ => ((N29_63).symm).inb g h_ hx_))
  have N65_61 : Dis (InW A308 (fun g => InB A300 g ∨ InB A302 g)) (InW A286 F284) := fun g h_ hx_ => h_.elim (fun h_ => O61.qf0 P65 (Nat.le_refl _) g hx_ h_) (fun h_ => h_.elim (fun h_ => N61_62 g hx_ h_) (fun h_ => N61_63 g hx_ h_))
  have N65_64 : ¬ InW A308 (fun g => InB A300 g ∨ InB A302 g) g64_ := fun h_ => h_.elim (fun h_ => P65.qa8 O64.lt |>.inb h_) (fun h_ => h_.elim (N62_64).inb (N63_64).inb)
  have O2 := O2_.ext e310
  have O26 := O26.ext e310
  have O27 := O27_.ext e310
  have O29 := O29.ext e310
  have O61 := O61.ext e310
  have O65 := Q65
  have hB := qa5 hB e310
  obtain ⟨hl320, H⟩ := H
  refine qlO qmk qmk.under O61 O65 (N65_61).symm (by decide) (by decide) hB.size rfl (by first | rfl | omega | (simp; done) | (simp; omega)) hl320 (fun A316 c317 w318 P61 e319 => ?_)
  have O2 := O2.app e319 (fun a_ ha_ hb_ => (O61.qda O2 (by decide) (by decide) (by decide)) (Or.inl ⟨a_, ha_, hb_⟩))
  have O26 := O26.app e319 (fun a_ ha_ hb_ => (O61.qda O26 (by decide) (by decide) (by decide)) (Or.inl ⟨a_, ha_, hb_⟩))
  have O27 := O27.app e319 (fun a_ b_ ha_ hb_ hab_ => (O61.qhk O27 (by decide) (by decide) (by decide)) _ (Or.inl ⟨b_, hb_, rfl⟩) ⟨a_, ha_, hab_⟩)
  have N61_29_ := qlM N61_29 N65_29 e319 O29
  have O29 := O29.app e319 (fun a_ b_ ha_ hb_ hab_ => N61_29 _ (Or.inl ⟨b_, hb_, rfl⟩) ⟨a_, ha_, hab_⟩)
  have N61_29 := N61_29_
  have hB := qo3 hB e319 O61
  have O61 := P61
  refine stB O26 1 #[(sv A38 xs37.length c39), (sv A316 (((xs285 ++ ([r295.1] : List D.Warp))).length) c317), (sv A45 xs44.length c46), (iv i288), (iv i289)] (fun w321 P26 e322 => ?_)
  have O2 := O2.chg e322 N2_26
  have O27 := O27.chg e322 (O27.qa6 O26 (by decide))
  have O29 := O29.chg e322 (O29.qa6 O26 (by decide))
  have O61 := O61.chg e322 (O61.qda O26 (by decide) (by decide) (by decide))
  have hB := echg hB e322 L26
  have O26 := P26
  obtain ⟨m323, hm324, hJ325⟩ := H
  exact ⟨m323, hm324, _, _, i288, i289, A316, c317, (fun g => F284 g ∨ (fun g => InB A300 g ∨ InB A302 g) g), rfl, hJ325, hB, O26, O61, O2, O27, O29, N61_29⟩
 refine ⟨_, _, _, (O26.a 0), _, _, _, (O26.a 1), _, _, _, (O26.a 2), _, (O26.a 3), _, (O26.a 4), ?_⟩
 refine stB O2 0 #[(sv A38 xs37.length c39), (sv A286 xs285.length c287), (sv A45 xs44.length c46), (iv i288), (iv i289)] (fun w326 P2 e327 => ?_)
 have O27 := O27.chg e327 (O27.qa6 O2 (by decide))
 have O29 := O29.chg e327 (O29.qa6 O2 (by decide))
 have O61 := O61.chg e327 (O61.qda O2 (by decide) (by decide) (by decide))
 have hB := echg hB e327 L2
 have O2 := P2
 refine ⟨_, _, _, (O2.a 0), _, _, _, (O2.a 1), _, _, _, (O2.a 2), _, (O2.a 3), _, (O2.a 4), ?_⟩
 cases hr.trans H.symm
 exact ⟨A38, c39, A286, c287, F284, A45, c46, rfl, O27, O61, O29, N61_29, hB⟩
def qan.vc (A0 : OA) (n0 c0 : Nat) (w : World) (K : VK) : Prop :=
  qa1 (Option.isNone A0) (K (sv none 0 0) w) (Run Tryz.prog (Instr.buildSlice 30 0 #[]) w fun v21 w22 => ∃ (A23 : OA) (n24 c25 : Nat), v21 = .slice A23 n24 c25 ∧ Run Tryz.prog (Builtin.append_ #[30, 30] 30 #[(sv A23 n24 c25), (sv A0 n0 c0)]) w22 fun v26 w27 => ∃ (A28 : OA) (n29 c30 : Nat), v26 = .slice A28 n29 c30 ∧ K (sv A28 n29 c30) w27)

def qan.ann : Ann := (.seq .l (.seq (.seq .l (.two (.seq .l .l) .l)) (.seq .l .l)))

theorem qan.con {xs0 r : List D.Ins} {A0 : OA} {c0 : Nat} {w : World} (hp : M.qbK xs0) (hr : r = M.qan xs0) (R0 : Row el84 w A0 xs0) (hc0 : xs0.length ≤ c0) :
    Cl 127 #[(sv A0 xs0.length c0)] w (fun v_ w_ => ∃ (A0_ : OA) (c0_ : Nat), v_ = (sv A0_ r.length c0_) ∧ Own el84 w_ w.heap.size A0_ c0_ r ∧ Ext w w_) := by
 have H := wp.qan.math xs0 hp
 have hB := Ext.refl w
 refine begK mixed Tryz.f127 ann (vc A0 xs0.length c0) ?_
 unfold vc
 unfold wp.qan at H
 obtain ⟨b21, hb22⟩ : ∃ b_, b_ = Option.isNone A0 := ⟨_, rfl⟩
 have H := H b21 (fun h_ => Row.isNone (R0.ext hB) (hb22.symm.trans h_))
 rw [← hb22]
 refine brc H (fun h H => ?_) fun h H => ?_
 ·cases hr.trans H.symm
  exact ⟨none, 0, rfl, Own.nil, hB⟩
 refine qap el84 ([] : List D.Ins) (fun _ => by kernel_rfl) rfl (fun A23 w24 P2 e25 => ?_)
 have O2 := P2.mono hB.size
 have hB := qa5 hB e25
 obtain ⟨hl30, H⟩ := H
 refine appO qeh O2 (R0.ext hB) hB.size hl30 (fun A26 c27 w28 P2 e29 => ?_)
 have hB := eapp hB e29 O2
 have O2 := P2
 cases hr.trans H.symm
 exact ⟨A26, c27, rfl, O2, hB⟩
def qbZ.vc (x0_0 : Int) (A0_1 : OA) (n0_1 c0_1 : Nat) (A0_2 : OA) (n0_2 c0_2 : Nat) (w : World) (K : VK) : Prop :=
  newK w (.cells #[(iv x0_0), (sv A0_1 n0_1 c0_1), (sv A0_2 n0_2 c0_2)] 52) fun g21 w22 => newK w22 (.cells #[(iv 0), (sv none 0 0), (sv none 0 0)] 52) fun g23 w24 => (∃ M25 : Nat → Prop, ldIM M25 w24 ((bx g21).add 0) 0 fun n26 => ldSM M25 w24 ((bx g21).add 1) 0 fun A27 n28 c29 => ldSM M25 w24 ((bx g21).add 2) 0 fun A30 n31 c32 => ((Run Tryz.prog (Instr.buildSlice 50 0 #[]) w24.drew fun v33 w34 => ∃ (A35 : OA) (n36 c37 : Nat), v33 = .slice A35 n36 c37 ∧ qac M25 w24 w34 ∧ ((Run Tryz.prog (Builtin.append_ #[50, 50] 50 #[(sv A35 n36 c37), (sv A27 n28 c29)]) w34 fun v38 w39 => ∃ (A40 : OA) (n41 c42 : Nat), v38 = .slice A40 n41 c42 ∧ qac M25 w24 w39 ∧ Run Tryz.prog (Instr.buildSlice 24 0 #[]) w39 fun v43 w44 => ∃ (A45 : OA) (n46 c47 : Nat), v43 = .slice A45 n46 c47 ∧ qac M25 w24 w44 ∧ Run Tryz.prog (Builtin.append_ #[24, 24] 24 #[(sv A45 n46 c47), (sv A30 n31 c32)]) w44 fun v48 w49 => ∃ (A50 : OA) (n51 c52 : Nat), v48 = .slice A50 n51 c52 ∧ qac M25 w24 w49 ∧ qa7 (bx g23) [(iv n26), (sv A40 n41 c42), (sv A50 n51 c52)] 0 w49 fun w53 => ldI w53 ((bx g23).add 0) fun n54 => ldS w53 ((bx g23).add 1) fun A55 n56 c57 => ldS w53 ((bx g23).add 2) fun A58 n59 c60 => K (.agg #[(iv n54), (sv A55 n56 c57), (sv A58 n59 c60)]) w53) ∧ (Run Tryz.prog (Instr.buildSlice 24 0 #[]) w34 fun v61 w62 => ∃ (A63 : OA) (n64 c65 : Nat), v61 = .slice A63 n64 c65 ∧ qac M25 w24 w62 ∧ Run Tryz.prog (Builtin.append_ #[50, 50] 50 #[(sv A35 n36 c37), (sv A27 n28 c29)]) w62 fun v66 w67 => ∃ (A68 : OA) (n69 c70 : Nat), v66 = .slice A68 n69 c70 ∧ qac M25 w24 w67 ∧ Run Tryz.prog (Builtin.append_ #[24, 24] 24 #[(sv A63 n64 c65), (sv A30 n31 c32)]) w67 fun v71 w72 => ∃ (A73 : OA) (n74 c75 : Nat), v71 = .slice A73 n74 c75 ∧ qac M25 w24 w72 ∧ qa7 (bx g23) [(iv n26), (sv A68 n69 c70), (sv A73 n74 c75)] 0 w72 fun w76 => ldI w76 ((bx g23).add 0) fun n77 => ldS w76 ((bx g23).add 1) fun A78 n79 c80 => ldS w76 ((bx g23).add 2) fun A81 n82 c83 => K (.agg #[(iv n77), (sv A78 n79 c80), (sv A81 n82 c83)]) w76) ∧ True)) ∧ (Run Tryz.prog (Instr.buildSlice 24 0 #[]) w24.drew fun v84 w85 => ∃ (A86 : OA) (n87 c88 : Nat), v84 = .slice A86 n87 c88 ∧ qac M25 w24 w85 ∧ Run Tryz.prog (Instr.buildSlice 50 0 #[]) w85 fun v89 w90 => ∃ (A91 : OA) (n92 c93 : Nat), v89 = .slice A91 n92 c93 ∧ qac M25 w24 w90 ∧ Run Tryz.prog (Builtin.append_ #[50, 50] 50 #[(sv A91 n92 c93), (sv A27 n28 c29)]) w90 fun v94 w95 => ∃ (A96 : OA) (n97 c98 : Nat), v94 = .slice A96 n97 c98 ∧ qac M25 w24 w95 ∧ Run Tryz.prog (Builtin.append_ #[24, 24] 24 #[(sv A86 n87 c88), (sv A30 n31 c32)]) w95 fun v99 w100 => ∃ (A101 : OA) (n102 c103 : Nat), v99 = .slice A101 n102 c103 ∧ qac M25 w24 w100 ∧ qa7 (bx g23) [(iv n26), (sv A96 n97 c98), (sv A101 n102 c103)] 0 w100 fun w104 => ldI w104 ((bx g23).add 0) fun n105 => ldS w104 ((bx g23).add 1) fun A106 n107 c108 => ldS w104 ((bx g23).add 2) fun A109 n110 c111 => K (.agg #[(iv n105), (sv A106 n107 c108), (sv A109 n110 c111)]) w104) ∧ True))

def qbZ.ann : Ann := (.seq .l (.seq .l .l))

theorem qbZ.con {s0 r : D.Warp} {A0_1 A0_2 : OA} {c0_1 c0_2 : Nat} {w : World} (hp : M.qey s0) (hr : r = M.qbZ s0) (R0_1 : Row el91 w A0_1 s0.Frames) (hc0_1 : s0.Frames.length ≤ c0_1) (R0_2 : Row el3 w A0_2 s0.Regs) (hc0_2 : s0.Regs.length ≤ c0_2) :
    Cl 221 #[(.agg (wC A0_1 c0_1 A0_2 c0_2 s0))] w (fun v_ w_ => ∃ (A0_ : OA) (c0_ : Nat) (A1_ : OA) (c1_ : Nat), v_ = (.agg (wC A0_ c0_ A1_ c1_ r)) ∧ Own el91 w_ w.heap.size A0_ c0_ r.Frames ∧ Own el3 w_ w.heap.size A1_ c1_ r.Regs ∧ Ext w w_) := by
 have H := wp.qbZ.math s0 hp
 refine begK mixed Tryz.f221 ann (vc s0.Number A0_1 s0.Frames.length c0_1 A0_2 s0.Regs.length c0_2) ?_
 unfold vc
 unfold wp.qbZ at H
 refine qax (fun g3_ w21 L3 O3 e22 => ?_)
 have hB := qa5 (Ext.refl w) e22
 refine qax (fun g4_ w23 L4 P4 e24 => ?_)
 have O3 := O3.ext e24
 have O4 := P4
 have L4 := Nat.le_trans hB.size L4
 have hB := qa5 hB e24
 refine ⟨(fun _ => False), _, noM (O3.a 0), _, _, _, noM (O3.a 1), _, _, _, noM (O3.a 2), ?_⟩
 refine And.intro ?_ ?_
 ·have H := H.1
  have O4 := O4.ext (Ext.drew _)
  have hB := qa5 hB (Ext.drew _)
  have hS25 := (Chg.refl (fun _ => False) w23).then (Ext.drew _)
  refine qap el91 ([] : List D.Frame) (fun _ => by kernel_rfl) rfl (fun A26 w27 P5 e28 => ?_)
  have N5_4 := P5.qa8 O4.lt
  have O4 := O4.ext e28
  have LB5 := (P5.mono hS25.size).low
  have O5 := P5.mono hB.size
  have hB := qa5 hB e28
  have hS25 := hS25.then e28
  refine ⟨qa2 hS25, ?_⟩
  refine And.intro ?_ ?_
  ·have H := H.1
   obtain ⟨hl33, H⟩ := H
   refine appO qja O5 (R0_1.ext hB) hB.size hl33 (fun A29 c30 w31 P5 e32 => ?_)
   have N5_4_ := Apart.app N5_4 e32 O4.lt
   have O4 := O4.app e32 N5_4
   have N5_4 := N5_4_
   have hS25 := hS25.app e32 (fun g h_ => (Or.inl (LB5 g h_)))
   have hB := eapp hB e32 O5
   have O5 := P5
   refine ⟨qa2 hS25, ?_⟩
   refine qap el3 ([] : List Int) (fun _ => by kernel_rfl) rfl (fun A34 w35 P6 e36 => ?_)
   have N6_4 := P6.qa8 O4.lt
   have N5_6 := aN O5 P6
   have O4 := O4.ext e36
   have LB6 := (P6.mono hS25.size).low
   have O6 := P6.mono hB.size
   have hB := qa5 hB e36
   have hS25 := hS25.then e36
   refine ⟨qa2 hS25, ?_⟩
   obtain ⟨hl41, H⟩ := H
   refine appO qdZ O6 (R0_2.ext hB) hB.size hl41 (fun A37 c38 w39 P6 e40 => ?_)
   have N6_4_ := Apart.app N6_4 e40 O4.lt
   have O4 := O4.app e40 N6_4
   have N6_4 := N6_4_
   have hS25 := hS25.app e40 (fun g h_ => (Or.inl (LB6 g h_)))
   have hB := eapp hB e40 O6
   refine ⟨qa2 hS25, ?_⟩
   refine qbI O4 (o := 0) (cs' := #[(iv s0.Number), (sv A29 (((([] : List D.Frame) ++ s0.Frames)).length) c30), (sv A37 (((([] : List Int) ++ s0.Regs)).length) c38)]) rfl rfl (Nat.le_of_ble_eq_true rfl) rfl (fun w42 O4 e43 => ?_)
   have O5 := ((O5.ext e36).app e40 N5_6).chg e43 N5_4
   have O6 := P6.chg e43 N6_4
   have hB := echg hB e43 L4
   refine ⟨_, (O4.a 0), _, _, _, (O4.a 1), _, _, _, (O4.a 2), ?_⟩
   cases hr.trans H.symm
   exact ⟨A29, c30, A37, c38, rfl, O5, O6, hB⟩
  refine And.intro ?_ ?_
  ·have H := H.2.1
   refine qap el3 ([] : List Int) (fun _ => by kernel_rfl) rfl (fun A44 w45 P7 e46 => ?_)
   have N7_4 := P7.qa8 O4.lt
   have N5_7 := aN O5 P7
   have O4 := O4.ext e46
   have O5 := O5.ext e46
   have LB7 := (P7.mono hS25.size).low
   have O7 := P7.mono hB.size
   have hB := qa5 hB e46
   have hS25 := hS25.then e46
   refine ⟨qa2 hS25, ?_⟩
   obtain ⟨hl51, H⟩ := H
   refine appO qja O5 (R0_1.ext hB) hB.size hl51 (fun A47 c48 w49 P5 e50 => ?_)
   have N5_4_ := Apart.app N5_4 e50 O4.lt
   have O4 := O4.app e50 N5_4
   have N7_5 := qcy.app (N5_7).symm e50 O7
   have O7 := O7.app e50 (N5_7).symm
   have N5_4 := N5_4_
   have hS25 := hS25.app e50 (fun g h_ => (Or.inl (LB5 g h_)))
   have hB := eapp hB e50 O5
   refine ⟨qa2 hS25, ?_⟩
   obtain ⟨hl56, H⟩ := H
   refine appO qdZ O7 (R0_2.ext hB) hB.size hl56 (fun A52 c53 w54 P7 e55 => ?_)
   have N7_4_ := Apart.app N7_4 e55 O4.lt
   have O4 := O4.app e55 N7_4
   have N7_4 := N7_4_
   have hS25 := hS25.app e55 (fun g h_ => (Or.inl (LB7 g h_)))
   have hB := eapp hB e55 O7
   refine ⟨qa2 hS25, ?_⟩
   refine qbI O4 (o := 0) (cs' := #[(iv s0.Number), (sv A47 (((([] : List D.Frame) ++ s0.Frames)).length) c48), (sv A52 (((([] : List Int) ++ s0.Regs)).length) c53)]) rfl rfl (Nat.le_of_ble_eq_true rfl) rfl (fun w57 O4 e58 => ?_)
   have O5 := (P5.app e55 (N7_5).symm).chg e58 N5_4
   have O7 := P7.chg e58 N7_4
   have hB := echg hB e58 L4
   refine ⟨_, (O4.a 0), _, _, _, (O4.a 1), _, _, _, (O4.a 2), ?_⟩
   cases hr.trans H.symm
   exact ⟨A47, c48, A52, c53, rfl, O5, O7, hB⟩
  exact trivial
 refine And.intro ?_ ?_
 ·have H := H.2.1
  have O4 := O4.ext (Ext.drew _)
  have hB := qa5 hB (Ext.drew _)
  have hS25 := (Chg.refl (fun _ => False) w23).then (Ext.drew _)
  refine qap el3 ([] : List Int) (fun _ => by kernel_rfl) rfl (fun A59 w60 P8 e61 => ?_)
  have N8_4 := P8.qa8 O4.lt
  have O4 := O4.ext e61
  have LB8 := (P8.mono hS25.size).low
  have O8 := P8.mono hB.size
  have hB := qa5 hB e61
  have hS25 := hS25.then e61
  refine ⟨qa2 hS25, ?_⟩
  refine qap el91 ([] : List D.Frame) (fun _ => by kernel_rfl) rfl (fun A62 w63 P9 e64 => ?_)
  have N9_4 := P9.qa8 O4.lt
  have N8_9 := aN O8 P9
  have O4 := O4.ext e64
  have O8 := O8.ext e64
  have LB9 := (P9.mono hS25.size).low
  have O9 := P9.mono hB.size
  have hB := qa5 hB e64
  have hS25 := hS25.then e64
  refine ⟨qa2 hS25, ?_⟩
  obtain ⟨hl69, H⟩ := H
  refine appO qja O9 (R0_1.ext hB) hB.size hl69 (fun A65 c66 w67 P9 e68 => ?_)
  have N9_4_ := Apart.app N9_4 e68 O4.lt
  have O4 := O4.app e68 N9_4
  have N8_9_ := qcy.app N8_9 e68 O8
  have O8 := O8.app e68 N8_9
  have N9_4 := N9_4_
  have N8_9 := N8_9_
  have hS25 := hS25.app e68 (fun g h_ => (Or.inl (LB9 g h_)))
  have hB := eapp hB e68 O9
  refine ⟨qa2 hS25, ?_⟩
  obtain ⟨hl74, H⟩ := H
  refine appO qdZ O8 (R0_2.ext hB) hB.size hl74 (fun A70 c71 w72 P8 e73 => ?_)
  have N8_4_ := Apart.app N8_4 e73 O4.lt
  have O4 := O4.app e73 N8_4
  have N8_4 := N8_4_
  have hS25 := hS25.app e73 (fun g h_ => (Or.inl (LB8 g h_)))
  have hB := eapp hB e73 O8
  refine ⟨qa2 hS25, ?_⟩
  refine qbI O4 (o := 0) (cs' := #[(iv s0.Number), (sv A65 (((([] : List D.Frame) ++ s0.Frames)).length) c66), (sv A70 (((([] : List Int) ++ s0.Regs)).length) c71)]) rfl rfl (Nat.le_of_ble_eq_true rfl) rfl (fun w75 O4 e76 => ?_)
  have O8 := P8.chg e76 N8_4
  have O9 := (P9.app e73 (N8_9).symm).chg e76 N9_4
  have hB := echg hB e76 L4
  refine ⟨_, (O4.a 0), _, _, _, (O4.a 1), _, _, _, (O4.a 2), ?_⟩
  cases hr.trans H.symm
  exact ⟨A65, c66, A70, c71, rfl, O9, O8, hB⟩
 exact trivial
end Go.V
