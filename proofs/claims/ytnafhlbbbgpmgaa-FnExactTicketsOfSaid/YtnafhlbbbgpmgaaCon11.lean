import Derived.Test.YtnafhlbbbgpmgaaMath11
import Derived.Test.YtnafhlbbbgpmgaaSeat
import Derived.Test.YtnafhlbbbgpmgaaHandRepeat
namespace Go.V
open Go.Proofs
set_option linter.unusedVariables false
set_option linter.unusedSimpArgs false
set_option maxRecDepth 100000

def impl_ones.vc  (w : World) (K : Value → World → Prop) : Prop :=
  Run Try.prog (Instr.buildSlice 39 1 #[(0, (.int .i64 1))]) w fun v21 w22 => ∃ (A23 : Option Addr) (n24 c25 : Nat), v21 = .slice A23 n24 c25 ∧ Cll Try.prog 124 #[(.slice A23 n24 c25), (.int .i64 8)] w22 fun v26 w27 => (∃ (A28 : Option Addr) (n29 : Nat) (c30 : Nat), v26 = (.slice A28 n29 c30) ∧ K (.slice A28 n29 c30) w27)

def impl_ones.ann : Ann := (.seq .l (.seq .l .l))

theorem impl_ones.vc_eq  (w : World) (K : Value → World → Prop) : vcF Try.prog Try.f65 impl_ones.ann [] K w = impl_ones.vc  w K := by kernel_rfl

theorem impl_ones.start  {w : World} {K : Value → World → Prop} (h : impl_ones.vc  w K) : Cll Try.prog 65 #[] w K :=
  vcF_sound mixed (fn := Try.f65) (by kernel_rfl) (by kernel_rfl) (an := impl_ones.ann) (args := []) (by rw [impl_ones.vc_eq]; exact h)

theorem impl_ones.con  {r : List Int} {w : World} (hr : r = M.impl_ones )  :
    Cll Try.prog 65 #[] w (fun v_ w_ => ∃ (A0_ : Option Addr) (c0_ : Nat), v_ = (.slice A0_ r.length c0_) ∧ Own el3 w_ w.heap.size A0_ c0_ r ∧ Ext w w_) := by
  have H := wp.impl_ones.math 
  have hB := Ext.refl w
  refine impl_ones.start ?_
  unfold impl_ones.vc
  unfold wp.impl_ones at H
  refine buildOwn el3 ([1] : List Int) (fun _ => by kernel_rfl) rfl (fun A21 w22 P1 e23 => ?_)
  have O1 := P1.mono hB.size
  have hB := ethen hB e23
  obtain ⟨hp26, H⟩ := H
  obtain ⟨r24, hr25⟩ : ∃ r_, r_ = M.slices_Repeat_int_int ([1] : List Int) 8 := ⟨_, rfl⟩
  have H := H r24 hr25
  refine (cllArgs (by first | (simp only [List.length_set]; done) | (simp; done)) (slices_Repeat_int_int.con hp26 hr25 O1.row O1.le)).mono ?_
  rintro _ w27 ⟨A29, c30, rfl, P2, e28⟩
  have N1_2 := Own.apart2_new O1 P2 (Nat.le_refl _)
  have O1 := O1.ext e28
  have O2 := P2.mono hB.size
  have hB := ethen hB e28
  refine ⟨A29, r24.length, c30, rfl, ?_⟩
  obtain rfl := hr.trans H.symm
  exact ⟨A29, c30, rfl, O2, hB⟩

def spec_TicketsOf.vc (x0 : Int) (A1 : Option Addr) (n1 : Nat) (c1 : Nat) (w : World) (K : Value → World → Prop) : Prop :=
  Run Try.prog (Instr.buildSlice 39 8 #[(0, (.int .i64 1)), (1, (.int .i64 1)), (2, (.int .i64 1)), (3, (.int .i64 1)), (4, (.int .i64 1)), (5, (.int .i64 1)), (6, (.int .i64 1)), (7, (.int .i64 1))]) w fun v21 w22 => ∃ (A23 : Option Addr) (n24 c25 : Nat), v21 = .slice A23 n24 c25 ∧ Cll Try.prog 63 #[(.int .i64 x0), (.slice A23 n24 c25), (.slice A1 n1 c1)] w22 fun v26 w27 => (∃ u28 : Value, (∃ (A29 : Option Addr) (n30 : Nat) (c31 : Nat), u28 = (.slice A29 n30 c31) ∧ ∃ u32 : Value, (∃ (n33 : Int), u32 = (.int .i64 n33) ∧ ∃ u34 : Value, (∃ (b35 : Bool), u34 = (.bool b35) ∧ v26 = (.tuple #[(.slice A29 n30 c31), (.int .i64 n33), (.bool b35)]) ∧ K (.tuple #[(.slice A29 n30 c31), (.bool b35)]) w27))))

def spec_TicketsOf.ann : Ann := (.seq .l (.seq .l (.seq .l .l)))

theorem spec_TicketsOf.vc_eq (x0 : Int) (A1 : Option Addr) (n1 : Nat) (c1 : Nat) (w : World) (K : Value → World → Prop) : vcF Try.prog Try.f27 spec_TicketsOf.ann [(.int .i64 x0), (.slice A1 n1 c1)] K w = spec_TicketsOf.vc x0 A1 n1 c1 w K := by kernel_rfl

theorem spec_TicketsOf.start {x0 : Int} {A1 : Option Addr} {n1 : Nat} {c1 : Nat} {w : World} {K : Value → World → Prop} (h : spec_TicketsOf.vc x0 A1 n1 c1 w K) : Cll Try.prog 27 #[(.int .i64 x0), (.slice A1 n1 c1)] w K :=
  vcF_sound mixed (fn := Try.f27) (by kernel_rfl) (by kernel_rfl) (an := spec_TicketsOf.ann) (args := [(.int .i64 x0), (.slice A1 n1 c1)]) (by rw [spec_TicketsOf.vc_eq]; exact h)

theorem spec_TicketsOf.con {x0 : Int} {xs1 : List Int} {A1 : Option Addr} {c1 : Nat} {r : (List Int) × Bool} {w : World} (hp : M.spec_TicketsOf_pre x0 xs1) (hr : r = M.spec_TicketsOf x0 xs1) (R1 : Row el3 w A1 xs1) (hc1 : xs1.length ≤ c1) :
    Cll Try.prog 27 #[(.int .i64 x0), (.slice A1 xs1.length c1)] w (fun v_ w_ => ∃ (A0_ : Option Addr) (c0_ : Nat), v_ = (.tuple #[(.slice A0_ r.1.length c0_), (.bool r.2)]) ∧ Own el3 w_ w.heap.size A0_ c0_ r.1 ∧ Ext w w_) := by
  have H := wp.spec_TicketsOf.math x0 xs1 hp
  have hB := Ext.refl w
  refine spec_TicketsOf.start ?_
  unfold spec_TicketsOf.vc
  unfold wp.spec_TicketsOf at H
  refine buildOwn el3 ([1, 1, 1, 1, 1, 1, 1, 1] : List Int) (fun _ => by kernel_rfl) rfl (fun A21 w22 P2 e23 => ?_)
  have O2 := P2.mono hB.size
  have hB := ethen hB e23
  obtain ⟨hp26, H⟩ := H
  obtain ⟨r24, hr25⟩ : ∃ r_, r_ = M.spec_AddInOrder x0 ([1, 1, 1, 1, 1, 1, 1, 1] : List Int) xs1 := ⟨_, rfl⟩
  have H := H r24 hr25
  refine (cllArgs (by first | (simp only [List.length_set]; done) | (simp; done)) (spec_AddInOrder.con hp26 hr25 O2.row O2.le (R1.ext hB) hc1)).mono ?_
  rintro _ w27 ⟨A29, c30, rfl, P3, e28⟩
  have N2_3 := Own.apart2_new O2 P3 (Nat.le_refl _)
  have O2 := O2.ext e28
  have O3 := P3.mono hB.size
  have hB := ethen hB e28
  refine ⟨(.slice A29 r24.1.length c30), ?_⟩
  refine ⟨A29, r24.1.length, c30, rfl, ?_⟩
  refine ⟨(.int .i64 r24.2.1), ?_⟩
  refine ⟨r24.2.1, rfl, ?_⟩
  refine ⟨(.bool r24.2.2), ?_⟩
  refine ⟨r24.2.2, rfl, ?_⟩
  refine ⟨rfl, ?_⟩
  obtain rfl := hr.trans H.symm
  exact ⟨A29, c30, rfl, O3, hB⟩

def impl_TicketsOf.vc (x0 : Int) (A1 : Option Addr) (n1 : Nat) (c1 : Nat) (w : World) (K : Value → World → Prop) : Prop :=
  Cll Try.prog 65 #[] w fun v21 w22 => (∃ (A23 : Option Addr) (n24 : Nat) (c25 : Nat), v21 = (.slice A23 n24 c25) ∧ Cll Try.prog 64 #[(.int .i64 x0), (.slice A23 n24 c25), (.slice A1 n1 c1)] w22 fun v26 w27 => (∃ u28 : Value, (∃ (A29 : Option Addr) (n30 : Nat) (c31 : Nat), u28 = (.slice A29 n30 c31) ∧ ∃ u32 : Value, (∃ (n33 : Int), u32 = (.int .i64 n33) ∧ ∃ u34 : Value, (∃ (b35 : Bool), u34 = (.bool b35) ∧ v26 = (.tuple #[(.slice A29 n30 c31), (.int .i64 n33), (.bool b35)]) ∧ K (.tuple #[(.slice A29 n30 c31), (.bool b35)]) w27)))))

def impl_TicketsOf.ann : Ann := (.seq .l (.seq .l (.seq .l .l)))

theorem impl_TicketsOf.vc_eq (x0 : Int) (A1 : Option Addr) (n1 : Nat) (c1 : Nat) (w : World) (K : Value → World → Prop) : vcF Try.prog Try.f29 impl_TicketsOf.ann [(.int .i64 x0), (.slice A1 n1 c1)] K w = impl_TicketsOf.vc x0 A1 n1 c1 w K := by kernel_rfl

theorem impl_TicketsOf.start {x0 : Int} {A1 : Option Addr} {n1 : Nat} {c1 : Nat} {w : World} {K : Value → World → Prop} (h : impl_TicketsOf.vc x0 A1 n1 c1 w K) : Cll Try.prog 29 #[(.int .i64 x0), (.slice A1 n1 c1)] w K :=
  vcF_sound mixed (fn := Try.f29) (by kernel_rfl) (by kernel_rfl) (an := impl_TicketsOf.ann) (args := [(.int .i64 x0), (.slice A1 n1 c1)]) (by rw [impl_TicketsOf.vc_eq]; exact h)

theorem impl_TicketsOf.con {x0 : Int} {xs1 : List Int} {A1 : Option Addr} {c1 : Nat} {r : (List Int) × Bool} {w : World} (hp : M.impl_TicketsOf_pre x0 xs1) (hr : r = M.impl_TicketsOf x0 xs1) (R1 : Row el3 w A1 xs1) (hc1 : xs1.length ≤ c1) :
    Cll Try.prog 29 #[(.int .i64 x0), (.slice A1 xs1.length c1)] w (fun v_ w_ => ∃ (A0_ : Option Addr) (c0_ : Nat), v_ = (.tuple #[(.slice A0_ r.1.length c0_), (.bool r.2)]) ∧ Own el3 w_ w.heap.size A0_ c0_ r.1 ∧ Ext w w_) := by
  have H := wp.impl_TicketsOf.math x0 xs1 hp
  have hB := Ext.refl w
  refine impl_TicketsOf.start ?_
  unfold impl_TicketsOf.vc
  unfold wp.impl_TicketsOf at H
  obtain ⟨r21, hr22⟩ : ∃ r_, r_ = M.impl_ones := ⟨_, rfl⟩
  have H := H r21 hr22
  refine (impl_ones.con hr22 ).mono ?_
  rintro _ w24 ⟨A26, c27, rfl, P2, e25⟩
  have O2 := P2.mono hB.size
  have hB := ethen hB e25
  refine ⟨A26, r21.length, c27, rfl, ?_⟩
  obtain ⟨hp30, H⟩ := H
  obtain ⟨r28, hr29⟩ : ∃ r_, r_ = M.impl_AddInOrder x0 r21 xs1 := ⟨_, rfl⟩
  have H := H r28 hr29
  refine (impl_AddInOrder.con hp30 hr29 O2.row O2.le (R1.ext hB) hc1).mono ?_
  rintro _ w31 ⟨A33, c34, rfl, P3, e32⟩
  have N2_3 := Own.apart2_new O2 P3 (Nat.le_refl _)
  have O2 := O2.ext e32
  have O3 := P3.mono hB.size
  have hB := ethen hB e32
  refine ⟨(.slice A33 r28.1.length c34), ?_⟩
  refine ⟨A33, r28.1.length, c34, rfl, ?_⟩
  refine ⟨(.int .i64 r28.2.1), ?_⟩
  refine ⟨r28.2.1, rfl, ?_⟩
  refine ⟨(.bool r28.2.2), ?_⟩
  refine ⟨r28.2.2, rfl, ?_⟩
  refine ⟨rfl, ?_⟩
  obtain rfl := hr.trans H.symm
  exact ⟨A33, c34, rfl, O3, hB⟩

def laws_FnExactTicketsOf.vc (x0 : Int) (A1 : Option Addr) (n1 : Nat) (c1 : Nat) (w : World) (K : Value → World → Prop) : Prop :=
  bcase (decide (((n1 : Nat) : Int) > 1048576)) (K (.bool true) w) (Cll Try.prog 28 #[(.slice A1 n1 c1)] w fun v21 w22 => (∃ (A23 : Option Addr) (n24 : Nat) (c25 : Nat), v21 = (.slice A23 n24 c25) ∧ Cll Try.prog 27 #[(.int .i64 x0), (.slice A23 n24 c25)] w22 fun v26 w27 => (∃ u28 : Value, (∃ (A29 : Option Addr) (n30 : Nat) (c31 : Nat), u28 = (.slice A29 n30 c31) ∧ ∃ u32 : Value, (∃ (b33 : Bool), u32 = (.bool b33) ∧ v26 = (.tuple #[(.slice A29 n30 c31), (.bool b33)]) ∧ Cll Try.prog 28 #[(.slice A1 n1 c1)] w27 fun v34 w35 => (∃ (A36 : Option Addr) (n37 : Nat) (c38 : Nat), v34 = (.slice A36 n37 c38) ∧ Cll Try.prog 29 #[(.int .i64 x0), (.slice A36 n37 c38)] w35 fun v39 w40 => (∃ u41 : Value, (∃ (A42 : Option Addr) (n43 : Nat) (c44 : Nat), u41 = (.slice A42 n43 c44) ∧ ∃ u45 : Value, (∃ (b46 : Bool), u45 = (.bool b46) ∧ v39 = (.tuple #[(.slice A42 n43 c44), (.bool b46)]) ∧ Cll Try.prog 30 #[(.slice A42 n43 c44), (.slice A29 n30 c31)] w40 fun v48 w49 => (∃ (b50 : Bool), v48 = (.bool b50) ∧ bcase (!b50) (K (.bool false) w49) (bcase (!(b46 == b33)) (K (.bool false) w49) (Cll Try.prog 28 #[(.slice A1 n1 c1)] w49 fun v51 w52 => (∃ (A53 : Option Addr) (n54 : Nat) (c55 : Nat), v51 = (.slice A53 n54 c55) ∧ Cll Try.prog 30 #[(.slice A36 n37 c38), (.slice A53 n54 c55)] w52 fun v56 w57 => (∃ (b58 : Bool), v56 = (.bool b58) ∧ bcase (!b58) (K (.bool false) w57) (Cll Try.prog 31 #[(.slice A36 n37 c38), (.int .i64 1)] w57 fun v59 w60 => (∃ (n61 : Int), v59 = (.int .i64 n61) ∧ bcase (decide (n61 < 0)) (K (.bool false) w60) (Cll Try.prog 30 #[(.slice A42 n43 c44), (.slice A29 n30 c31)] w60 fun v63 w64 => (∃ (b65 : Bool), v63 = (.bool b65) ∧ bcase (!b65) (K (.bool false) w64) (bcase (!(b46 == b33)) (K (.bool false) w64) (Cll Try.prog 31 #[(.slice A42 n43 c44), (.int .i64 1)] w64 fun v66 w67 => (∃ (n68 : Int), v66 = (.int .i64 n68) ∧ Cll Try.prog 32 #[(.slice A42 n43 c44), (.int .i64 1)] w67 fun v69 w70 => (∃ (n71 : Int), v69 = (.int .i64 n71) ∧ bcase (decide (n71 < 0)) (K (.bool false) w70) (bcase (n71 != n68) (K (.bool false) w70) (Cll Try.prog 28 #[(.slice A1 n1 c1)] w70 fun v72 w73 => (∃ (A74 : Option Addr) (n75 : Nat) (c76 : Nat), v72 = (.slice A74 n75 c76) ∧ Cll Try.prog 29 #[(.int .i64 x0), (.slice A74 n75 c76)] w73 fun v77 w78 => (∃ u79 : Value, (∃ (A80 : Option Addr) (n81 : Nat) (c82 : Nat), u79 = (.slice A80 n81 c82) ∧ ∃ u83 : Value, (∃ (b84 : Bool), u83 = (.bool b84) ∧ v77 = (.tuple #[(.slice A80 n81 c82), (.bool b84)]) ∧ Cll Try.prog 30 #[(.slice A80 n81 c82), (.slice A29 n30 c31)] w78 fun v86 w87 => (∃ (b88 : Bool), v86 = (.bool b88) ∧ bcase (!b88) (K (.bool false) w87) (bcase (!(b84 == b33)) (K (.bool false) w87) (Cll Try.prog 32 #[(.slice A42 n43 c44), (.int .i64 1)] w87 fun v89 w90 => (∃ (n91 : Int), v89 = (.int .i64 n91) ∧ bcase (decide (n91 < 0)) (K (.bool false) w90) (bcase (n91 != n68) (K (.bool false) w90) (K (.bool true) w90))))))))))))))))))))))))))))))))))

def laws_FnExactTicketsOf.ann : Ann := (.seq .l (.seq (.seq .l (.two (.seq .l .l) .l)) (.seq .l (.seq .l (.seq .l (.seq (.seq .l (.two (.seq .l .l) .l)) (.seq (.seq .l (.two (.seq .l .l) .l)) (.seq .l (.seq .l (.seq (.seq .l (.two (.seq .l .l) .l)) (.seq .l (.seq .l (.seq .l (.seq .l (.seq (.seq .l (.two (.seq .l .l) .l)) (.seq (.seq .l (.two (.seq .l .l) .l)) (.seq .l (.seq (.seq .l (.two (.seq .l .l) .l)) (.seq .l (.seq .l (.seq (.seq .l (.two (.seq .l .l) .l)) (.seq (.seq .l (.two (.seq .l .l) .l)) (.seq .l .l)))))))))))))))))))))))

theorem laws_FnExactTicketsOf.vc_eq (x0 : Int) (A1 : Option Addr) (n1 : Nat) (c1 : Nat) (w : World) (K : Value → World → Prop) : vcF Try.prog Try.f6 laws_FnExactTicketsOf.ann [(.int .i64 x0), (.slice A1 n1 c1)] K w = laws_FnExactTicketsOf.vc x0 A1 n1 c1 w K := by kernel_rfl

theorem laws_FnExactTicketsOf.start {x0 : Int} {A1 : Option Addr} {n1 : Nat} {c1 : Nat} {w : World} {K : Value → World → Prop} (h : laws_FnExactTicketsOf.vc x0 A1 n1 c1 w K) : Cll Try.prog 6 #[(.int .i64 x0), (.slice A1 n1 c1)] w K :=
  vcF_sound mixed (fn := Try.f6) (by kernel_rfl) (by kernel_rfl) (an := laws_FnExactTicketsOf.ann) (args := [(.int .i64 x0), (.slice A1 n1 c1)]) (by rw [laws_FnExactTicketsOf.vc_eq]; exact h)

theorem laws_FnExactTicketsOf.con {x0 : Int} {xs1 : List Int} {A1 : Option Addr} {c1 : Nat} {r : Bool} {w : World} (hp : M.laws_FnExactTicketsOf_pre x0 xs1) (hr : r = M.laws_FnExactTicketsOf x0 xs1) (R1 : Row el3 w A1 xs1) (hc1 : xs1.length ≤ c1) :
    Cll Try.prog 6 #[(.int .i64 x0), (.slice A1 xs1.length c1)] w (fun v_ w_ => v_ = (.bool r) ∧ Ext w w_) := by
  have H := wp.laws_FnExactTicketsOf.math x0 xs1 hp
  have hB := Ext.refl w
  refine laws_FnExactTicketsOf.start ?_
  unfold laws_FnExactTicketsOf.vc
  unfold wp.laws_FnExactTicketsOf at H
  refine bcase_mk (fun hc124 => ?_) (fun hc124 => ?_)
  · have H := (bcase_iff.1 H).1 hc124
    obtain rfl := hr.trans H.symm
    exact ⟨rfl, hB⟩
  · have H := (bcase_iff.1 H).2 hc124
    obtain ⟨hp23, H⟩ := H
    obtain ⟨r21, hr22⟩ : ∃ r_, r_ = M.laws_toIntS xs1 := ⟨_, rfl⟩
    have H := H r21 hr22
    refine (laws_toIntS.con hp23 hr22 (R1.ext hB) hc1).mono ?_
    rintro _ w24 ⟨A26, c27, rfl, P2, e25⟩
    have O2 := P2.mono hB.size
    have hB := ethen hB e25
    refine ⟨A26, r21.length, c27, rfl, ?_⟩
    obtain ⟨hp30, H⟩ := H
    obtain ⟨r28, hr29⟩ : ∃ r_, r_ = M.spec_TicketsOf x0 r21 := ⟨_, rfl⟩
    have H := H r28 hr29
    refine (spec_TicketsOf.con hp30 hr29 O2.row O2.le).mono ?_
    rintro _ w31 ⟨A33, c34, rfl, P3, e32⟩
    have N2_3 := Own.apart2_new O2 P3 (Nat.le_refl _)
    have O2 := O2.ext e32
    have O3 := P3.mono hB.size
    have hB := ethen hB e32
    refine ⟨(.slice A33 r28.1.length c34), ?_⟩
    refine ⟨A33, r28.1.length, c34, rfl, ?_⟩
    refine ⟨(.bool r28.2), ?_⟩
    refine ⟨r28.2, rfl, ?_⟩
    refine ⟨rfl, ?_⟩
    obtain ⟨hp37, H⟩ := H
    obtain ⟨r35, hr36⟩ : ∃ r_, r_ = M.laws_toIntS xs1 := ⟨_, rfl⟩
    have H := H r35 hr36
    refine (laws_toIntS.con hp37 hr36 (R1.ext hB) hc1).mono ?_
    rintro _ w38 ⟨A40, c41, rfl, P4, e39⟩
    have N2_4 := Own.apart2_new O2 P4 (Nat.le_refl _)
    have N3_4 := Own.apart2_new O3 P4 (Nat.le_refl _)
    have O2 := O2.ext e39
    have O3 := O3.ext e39
    have O4 := P4.mono hB.size
    have hB := ethen hB e39
    refine ⟨A40, r35.length, c41, rfl, ?_⟩
    obtain ⟨hp44, H⟩ := H
    obtain ⟨r42, hr43⟩ : ∃ r_, r_ = M.impl_TicketsOf x0 r35 := ⟨_, rfl⟩
    have H := H r42 hr43
    refine (impl_TicketsOf.con hp44 hr43 O4.row O4.le).mono ?_
    rintro _ w45 ⟨A47, c48, rfl, P5, e46⟩
    have N2_5 := Own.apart2_new O2 P5 (Nat.le_refl _)
    have N3_5 := Own.apart2_new O3 P5 (Nat.le_refl _)
    have N4_5 := Own.apart2_new O4 P5 (Nat.le_refl _)
    have O2 := O2.ext e46
    have O3 := O3.ext e46
    have O4 := O4.ext e46
    have O5 := P5.mono hB.size
    have hB := ethen hB e46
    refine ⟨(.slice A47 r42.1.length c48), ?_⟩
    refine ⟨A47, r42.1.length, c48, rfl, ?_⟩
    refine ⟨(.bool r42.2), ?_⟩
    refine ⟨r42.2, rfl, ?_⟩
    refine ⟨rfl, ?_⟩
    obtain ⟨hp51, H⟩ := H
    obtain ⟨r49, hr50⟩ : ∃ r_, r_ = M.laws_eqIntS r42.1 r28.1 := ⟨_, rfl⟩
    have H := H r49 hr50
    refine (laws_eqIntS.con hp51 hr50 O5.row O5.le O3.row O3.le).mono ?_
    rintro _ w52 ⟨rfl, e53⟩
    have O2 := O2.ext e53
    have O3 := O3.ext e53
    have O4 := O4.ext e53
    have O5 := O5.ext e53
    have hB := ethen hB e53
    refine ⟨r49, rfl, ?_⟩
    refine bcase_mk (fun hc123 => ?_) (fun hc123 => ?_)
    · have H := (bcase_iff.1 H).1 hc123
      obtain rfl := hr.trans H.symm
      exact ⟨rfl, hB⟩
    · have H := (bcase_iff.1 H).2 hc123
      refine bcase_mk (fun hc122 => ?_) (fun hc122 => ?_)
      · have H := (bcase_iff.1 H).1 hc122
        obtain rfl := hr.trans H.symm
        exact ⟨rfl, hB⟩
      · have H := (bcase_iff.1 H).2 hc122
        obtain ⟨hp56, H⟩ := H
        obtain ⟨r54, hr55⟩ : ∃ r_, r_ = M.laws_toIntS xs1 := ⟨_, rfl⟩
        have H := H r54 hr55
        refine (laws_toIntS.con hp56 hr55 (R1.ext hB) hc1).mono ?_
        rintro _ w57 ⟨A59, c60, rfl, P6, e58⟩
        have N2_6 := Own.apart2_new O2 P6 (Nat.le_refl _)
        have N3_6 := Own.apart2_new O3 P6 (Nat.le_refl _)
        have N4_6 := Own.apart2_new O4 P6 (Nat.le_refl _)
        have N5_6 := Own.apart2_new O5 P6 (Nat.le_refl _)
        have O2 := O2.ext e58
        have O3 := O3.ext e58
        have O4 := O4.ext e58
        have O5 := O5.ext e58
        have O6 := P6.mono hB.size
        have hB := ethen hB e58
        refine ⟨A59, r54.length, c60, rfl, ?_⟩
        obtain ⟨hp63, H⟩ := H
        obtain ⟨r61, hr62⟩ : ∃ r_, r_ = M.laws_eqIntS r35 r54 := ⟨_, rfl⟩
        have H := H r61 hr62
        refine (laws_eqIntS.con hp63 hr62 O4.row O4.le O6.row O6.le).mono ?_
        rintro _ w64 ⟨rfl, e65⟩
        have O2 := O2.ext e65
        have O3 := O3.ext e65
        have O4 := O4.ext e65
        have O5 := O5.ext e65
        have O6 := O6.ext e65
        have hB := ethen hB e65
        refine ⟨r61, rfl, ?_⟩
        refine bcase_mk (fun hc121 => ?_) (fun hc121 => ?_)
        · have H := (bcase_iff.1 H).1 hc121
          obtain rfl := hr.trans H.symm
          exact ⟨rfl, hB⟩
        · have H := (bcase_iff.1 H).2 hc121
          obtain ⟨hp68, H⟩ := H
          obtain ⟨r66, hr67⟩ : ∃ r_, r_ = M.laws_markIntS r35 1 := ⟨_, rfl⟩
          have H := H r66 hr67
          refine (laws_markIntS.con hp68 hr67 (O4.mono (Nat.zero_le _))).mono ?_
          rintro _ w69 ⟨rfl, Q4, hl71, e70⟩
          have O2 := O2.chgS e70 (N2_4).inb
          have O3 := O3.chgS e70 (N3_4).inb
          have O5 := O5.chgS e70 ((N4_5).symm).inb
          have O6 := O6.chgS e70 ((N4_6).symm).inb
          have hB := Chg.ext hB e70 O4.low
          have O4 := Q4.up O4
          refine ⟨r66.1, rfl, ?_⟩
          refine bcase_mk (fun hc120 => ?_) (fun hc120 => ?_)
          · have H := (bcase_iff.1 H).1 hc120
            obtain rfl := hr.trans H.symm
            exact ⟨rfl, hB⟩
          · have H := (bcase_iff.1 H).2 hc120
            obtain ⟨hp74, H⟩ := H
            obtain ⟨r72, hr73⟩ : ∃ r_, r_ = M.laws_eqIntS r42.1 r28.1 := ⟨_, rfl⟩
            have H := H r72 hr73
            refine (laws_eqIntS.con hp74 hr73 O5.row O5.le O3.row O3.le).mono ?_
            rintro _ w75 ⟨rfl, e76⟩
            have O2 := O2.ext e76
            have O3 := O3.ext e76
            have O4 := O4.ext e76
            have O5 := O5.ext e76
            have O6 := O6.ext e76
            have hB := ethen hB e76
            refine ⟨r72, rfl, ?_⟩
            refine bcase_mk (fun hc119 => ?_) (fun hc119 => ?_)
            · have H := (bcase_iff.1 H).1 hc119
              obtain rfl := hr.trans H.symm
              exact ⟨rfl, hB⟩
            · have H := (bcase_iff.1 H).2 hc119
              refine bcase_mk (fun hc118 => ?_) (fun hc118 => ?_)
              · have H := (bcase_iff.1 H).1 hc118
                obtain rfl := hr.trans H.symm
                exact ⟨rfl, hB⟩
              · have H := (bcase_iff.1 H).2 hc118
                obtain ⟨hp79, H⟩ := H
                obtain ⟨r77, hr78⟩ : ∃ r_, r_ = M.laws_markIntS r42.1 1 := ⟨_, rfl⟩
                have H := H r77 hr78
                refine (laws_markIntS.con hp79 hr78 (O5.mono (Nat.zero_le _))).mono ?_
                rintro _ w80 ⟨rfl, Q5, hl82, e81⟩
                have O2 := O2.chgS e81 (N2_5).inb
                have O3 := O3.chgS e81 (N3_5).inb
                have O4 := O4.chgS e81 (N4_5).inb
                have O6 := O6.chgS e81 ((N5_6).symm).inb
                have hB := Chg.ext hB e81 O5.low
                have O5 := Q5.up O5
                refine ⟨r77.1, rfl, ?_⟩
                obtain ⟨hp85, H⟩ := H
                obtain ⟨r83, hr84⟩ : ∃ r_, r_ = M.laws_heldIntS r77.2 1 := ⟨_, rfl⟩
                have H := H r83 hr84
                refine (cllArgs (by first | (simp only [List.length_set, hl82]; done) | (simp; done)) (laws_heldIntS.con hp85 hr84 O5.row O5.le)).mono ?_
                rintro _ w86 ⟨rfl, e87⟩
                have O2 := O2.ext e87
                have O3 := O3.ext e87
                have O4 := O4.ext e87
                have O5 := O5.ext e87
                have O6 := O6.ext e87
                have hB := ethen hB e87
                refine ⟨r83, rfl, ?_⟩
                refine bcase_mk (fun hc117 => ?_) (fun hc117 => ?_)
                · have H := (bcase_iff.1 H).1 hc117
                  obtain rfl := hr.trans H.symm
                  exact ⟨rfl, hB⟩
                · have H := (bcase_iff.1 H).2 hc117
                  refine bcase_mk (fun hc116 => ?_) (fun hc116 => ?_)
                  · have H := (bcase_iff.1 H).1 hc116
                    obtain rfl := hr.trans H.symm
                    exact ⟨rfl, hB⟩
                  · have H := (bcase_iff.1 H).2 hc116
                    obtain ⟨hp90, H⟩ := H
                    obtain ⟨r88, hr89⟩ : ∃ r_, r_ = M.laws_toIntS xs1 := ⟨_, rfl⟩
                    have H := H r88 hr89
                    refine (laws_toIntS.con hp90 hr89 (R1.ext hB) hc1).mono ?_
                    rintro _ w91 ⟨A93, c94, rfl, P7, e92⟩
                    have N2_7 := Own.apart2_new O2 P7 (Nat.le_refl _)
                    have N3_7 := Own.apart2_new O3 P7 (Nat.le_refl _)
                    have N4_7 := Own.apart2_new O4 P7 (Nat.le_refl _)
                    have N5_7 := Own.apart2_new O5 P7 (Nat.le_refl _)
                    have N6_7 := Own.apart2_new O6 P7 (Nat.le_refl _)
                    have O2 := O2.ext e92
                    have O3 := O3.ext e92
                    have O4 := O4.ext e92
                    have O5 := O5.ext e92
                    have O6 := O6.ext e92
                    have O7 := P7.mono hB.size
                    have hB := ethen hB e92
                    refine ⟨A93, r88.length, c94, rfl, ?_⟩
                    obtain ⟨hp97, H⟩ := H
                    obtain ⟨r95, hr96⟩ : ∃ r_, r_ = M.impl_TicketsOf x0 r88 := ⟨_, rfl⟩
                    have H := H r95 hr96
                    refine (impl_TicketsOf.con hp97 hr96 O7.row O7.le).mono ?_
                    rintro _ w98 ⟨A100, c101, rfl, P8, e99⟩
                    have N2_8 := Own.apart2_new O2 P8 (Nat.le_refl _)
                    have N3_8 := Own.apart2_new O3 P8 (Nat.le_refl _)
                    have N4_8 := Own.apart2_new O4 P8 (Nat.le_refl _)
                    have N5_8 := Own.apart2_new O5 P8 (Nat.le_refl _)
                    have N6_8 := Own.apart2_new O6 P8 (Nat.le_refl _)
                    have N7_8 := Own.apart2_new O7 P8 (Nat.le_refl _)
                    have O2 := O2.ext e99
                    have O3 := O3.ext e99
                    have O4 := O4.ext e99
                    have O5 := O5.ext e99
                    have O6 := O6.ext e99
                    have O7 := O7.ext e99
                    have O8 := P8.mono hB.size
                    have hB := ethen hB e99
                    refine ⟨(.slice A100 r95.1.length c101), ?_⟩
                    refine ⟨A100, r95.1.length, c101, rfl, ?_⟩
                    refine ⟨(.bool r95.2), ?_⟩
                    refine ⟨r95.2, rfl, ?_⟩
                    refine ⟨rfl, ?_⟩
                    obtain ⟨hp104, H⟩ := H
                    obtain ⟨r102, hr103⟩ : ∃ r_, r_ = M.laws_eqIntS r95.1 r28.1 := ⟨_, rfl⟩
                    have H := H r102 hr103
                    refine (laws_eqIntS.con hp104 hr103 O8.row O8.le O3.row O3.le).mono ?_
                    rintro _ w105 ⟨rfl, e106⟩
                    have O2 := O2.ext e106
                    have O3 := O3.ext e106
                    have O4 := O4.ext e106
                    have O5 := O5.ext e106
                    have O6 := O6.ext e106
                    have O7 := O7.ext e106
                    have O8 := O8.ext e106
                    have hB := ethen hB e106
                    refine ⟨r102, rfl, ?_⟩
                    refine bcase_mk (fun hc115 => ?_) (fun hc115 => ?_)
                    · have H := (bcase_iff.1 H).1 hc115
                      obtain rfl := hr.trans H.symm
                      exact ⟨rfl, hB⟩
                    · have H := (bcase_iff.1 H).2 hc115
                      refine bcase_mk (fun hc114 => ?_) (fun hc114 => ?_)
                      · have H := (bcase_iff.1 H).1 hc114
                        obtain rfl := hr.trans H.symm
                        exact ⟨rfl, hB⟩
                      · have H := (bcase_iff.1 H).2 hc114
                        obtain ⟨hp109, H⟩ := H
                        obtain ⟨r107, hr108⟩ : ∃ r_, r_ = M.laws_heldIntS r77.2 1 := ⟨_, rfl⟩
                        have H := H r107 hr108
                        refine (cllArgs (by first | (simp only [List.length_set, hl82]; done) | (simp; done)) (laws_heldIntS.con hp109 hr108 O5.row O5.le)).mono ?_
                        rintro _ w110 ⟨rfl, e111⟩
                        have O2 := O2.ext e111
                        have O3 := O3.ext e111
                        have O4 := O4.ext e111
                        have O5 := O5.ext e111
                        have O6 := O6.ext e111
                        have O7 := O7.ext e111
                        have O8 := O8.ext e111
                        have hB := ethen hB e111
                        refine ⟨r107, rfl, ?_⟩
                        refine bcase_mk (fun hc113 => ?_) (fun hc113 => ?_)
                        · have H := (bcase_iff.1 H).1 hc113
                          obtain rfl := hr.trans H.symm
                          exact ⟨rfl, hB⟩
                        · have H := (bcase_iff.1 H).2 hc113
                          refine bcase_mk (fun hc112 => ?_) (fun hc112 => ?_)
                          · have H := (bcase_iff.1 H).1 hc112
                            obtain rfl := hr.trans H.symm
                            exact ⟨rfl, hB⟩
                          · have H := (bcase_iff.1 H).2 hc112
                            obtain rfl := hr.trans H.symm
                            exact ⟨rfl, hB⟩

end Go.V
