import Derived.Test.YtnbkmenlaogblaaMath21
import Derived.Test.YtnbkmenlaogblaaSeat
import Derived.Test.YtnbkmenlaogblaaCon20
import Derived.Test.YtnbkmenlaogblaaCon12
namespace Go.V
open Go.Proofs
set_option linter.unusedVariables false
set_option linter.unusedSimpArgs false
set_option maxRecDepth 100000

def spec_DrawWild.vc (A0 : Option Addr) (n0 : Nat) (c0 : Nat) (w : World) (K : Value → World → Prop) : Prop :=
  Cll Try.prog 84 #[(.slice A0 n0 c0)] w fun v21 w22 => (∃ (p23 : Addr), v21 = (.pointer (some p23)) ∧ Cll Try.prog 83 #[(.pointer (some p23))] w22 fun v24 w25 => (∃ (A26 : Option Addr) (n27 : Nat) (c28 : Nat), v24 = (.slice A26 n27 c28) ∧ K (.slice A26 n27 c28) w25))

def spec_DrawWild.ann : Ann := (.seq .l (.seq .l .l))

theorem spec_DrawWild.vc_eq (A0 : Option Addr) (n0 : Nat) (c0 : Nat) (w : World) (K : Value → World → Prop) : vcF Try.prog Try.f35 spec_DrawWild.ann [(.slice A0 n0 c0)] K w = spec_DrawWild.vc A0 n0 c0 w K := by kernel_rfl

theorem spec_DrawWild.start {A0 : Option Addr} {n0 : Nat} {c0 : Nat} {w : World} {K : Value → World → Prop} (h : spec_DrawWild.vc A0 n0 c0 w K) : Cll Try.prog 35 #[(.slice A0 n0 c0)] w K :=
  vcF_sound mixed (fn := Try.f35) (by kernel_rfl) (by kernel_rfl) (an := spec_DrawWild.ann) (args := [(.slice A0 n0 c0)]) (by rw [spec_DrawWild.vc_eq]; exact h)

theorem spec_DrawWild.con {xs0 : List Int} {A0 : Option Addr} {c0 : Nat} {r : List D.Ins} {w : World} (hp : M.spec_DrawWild_pre xs0) (hr : r = M.spec_DrawWild xs0) (R0 : Row el5 w A0 xs0) (hc0 : xs0.length ≤ c0) :
    Cll Try.prog 35 #[(.slice A0 xs0.length c0)] w (fun v_ w_ => ∃ (A0_ : Option Addr) (c0_ : Nat), v_ = (.slice A0_ r.length c0_) ∧ Own el76 w_ w.heap.size A0_ c0_ r ∧ Ext w w_) := by
  have H := wp.spec_DrawWild.math xs0 hp
  have hB := Ext.refl w
  refine spec_DrawWild.start ?_
  unfold spec_DrawWild.vc
  unfold wp.spec_DrawWild at H
  obtain ⟨hp23, H⟩ := H
  obtain ⟨r21, hr22⟩ : ∃ r_, r_ = M.spec_l01New xs0 := ⟨_, rfl⟩
  have H := H r21 hr22
  refine (spec_l01New.con hp23 hr22 (R0.ext hB) hc0).mono ?_
  rintro _ w24 ⟨g2_, rfl, P2, hq26, L2, e25⟩
  rw [hq26] at P2
  have L2 := Nat.le_trans hB.size L2
  have O2 := P2
  have hB := ethen hB e25
  refine ⟨(⟨g2_, 0, none⟩ : Addr), rfl, ?_⟩
  obtain ⟨hp29, H⟩ := H
  obtain ⟨r27, hr28⟩ : ∃ r_, r_ = M.spec_l07Wild (⟨xs0, r21.i, r21.h⟩ : D.Cur) := ⟨_, rfl⟩
  have H := H r27 hr28
  refine (spec_l07Wild.con hp29 hr28 O2 (R0.ext hB) hc0 (fun hx_ => (fun g h_ hS_ => Nat.not_le.2 (R0.old hx_ g h_) (box_low L2 _ hS_)))).mono ?_
  rintro _ w30 ⟨A32, c33, rfl, P3, Q2, hq34, e31⟩
  rw [hq34] at Q2
  have N3_2 := P3.apart_old O2.lt
  have O3 := P3.mono hB.size
  have hB := Chg.ext hB e31 (box_low L2)
  have O2 := Q2
  refine ⟨A32, r27.1.length, c33, rfl, ?_⟩
  obtain rfl := hr.trans H.symm
  exact ⟨A32, c33, rfl, O3, hB⟩

def impl_LaneEnded.vc (A0 : Option Addr) (n0 : Nat) (c0 : Nat) (x1_0 : Int) (x1_1 : Int) (A1_2 : Option Addr) (n1_2 : Nat) (c1_2 : Nat) (w : World) (K : Value → World → Prop) : Prop :=
  newK w (.cells #[(.int .i64 x1_0), (.int .i64 x1_1), (.slice A1_2 n1_2 c1_2)] 57) fun g21 w22 => ∃ (n23 : Int), w22.cell? ((⟨g21, 0, none⟩ : Addr).add 0) = some (.int .i64 n23) ∧ ∃ (n24 : Int), w22.cell? ((⟨g21, 0, none⟩ : Addr).add 1) = some (.int .i64 n24) ∧ ∃ (A25 : Option Addr) (n26 : Nat) (c27 : Nat), w22.cell? ((⟨g21, 0, none⟩ : Addr).add 2) = some (.slice A25 n26 c27) ∧ Cll Try.prog 87 #[(.slice A0 n0 c0), (.agg #[(.int .i64 n23), (.int .i64 n24), (.slice A25 n26 c27)])] w22 fun v28 w29 => (∃ (b30 : Bool), v28 = (.bool b30) ∧ bcase b30 (∃ (n31 : Int), w29.cell? (((⟨g21, 0, none⟩ : Addr).add 1).add 0) = some (.int .i64 n31) ∧ K (.bool (n31 == ((n0 : Nat) : Int))) w29) (K (.bool false) w29))

def impl_LaneEnded.ann : Ann := (.seq .l (.seq .l .l))

theorem impl_LaneEnded.vc_eq (A0 : Option Addr) (n0 : Nat) (c0 : Nat) (x1_0 : Int) (x1_1 : Int) (A1_2 : Option Addr) (n1_2 : Nat) (c1_2 : Nat) (w : World) (K : Value → World → Prop) : vcF Try.prog Try.f39 impl_LaneEnded.ann [(.slice A0 n0 c0), (.agg #[(.int .i64 x1_0), (.int .i64 x1_1), (.slice A1_2 n1_2 c1_2)])] K w = impl_LaneEnded.vc A0 n0 c0 x1_0 x1_1 A1_2 n1_2 c1_2 w K := by kernel_rfl

theorem impl_LaneEnded.start {A0 : Option Addr} {n0 : Nat} {c0 : Nat} {x1_0 : Int} {x1_1 : Int} {A1_2 : Option Addr} {n1_2 : Nat} {c1_2 : Nat} {w : World} {K : Value → World → Prop} (h : impl_LaneEnded.vc A0 n0 c0 x1_0 x1_1 A1_2 n1_2 c1_2 w K) : Cll Try.prog 39 #[(.slice A0 n0 c0), (.agg #[(.int .i64 x1_0), (.int .i64 x1_1), (.slice A1_2 n1_2 c1_2)])] w K :=
  vcF_sound mixed (fn := Try.f39) (by kernel_rfl) (by kernel_rfl) (an := impl_LaneEnded.ann) (args := [(.slice A0 n0 c0), (.agg #[(.int .i64 x1_0), (.int .i64 x1_1), (.slice A1_2 n1_2 c1_2)])]) (by rw [impl_LaneEnded.vc_eq]; exact h)

theorem impl_LaneEnded.con {xs0 : List D.Ins} {A0 : Option Addr} {c0 : Nat} {s1 : D.Lane} {A1_2 : Option Addr} {c1_2 : Nat} {r : Bool} {w : World} (hp : M.impl_LaneEnded_pre xs0 s1) (hr : r = M.impl_LaneEnded xs0 s1) (R0 : Row el76 w A0 xs0) (hc0 : xs0.length ≤ c0) (R1_2 : Row el3 w A1_2 s1.Regs) (hc1_2 : s1.Regs.length ≤ c1_2) :
    Cll Try.prog 39 #[(.slice A0 xs0.length c0), (.agg #[(.int .i64 s1.Thread), (.int .i64 s1.Pc), (.slice A1_2 s1.Regs.length c1_2)])] w (fun v_ w_ => v_ = (.bool r) ∧ Ext w w_) := by
  have H := wp.impl_LaneEnded.math xs0 s1 hp
  have hB := Ext.refl w
  refine impl_LaneEnded.start ?_
  unfold impl_LaneEnded.vc
  unfold wp.impl_LaneEnded at H
  refine newBlk (fun g3_ w21 L3 P3 e22 => ?_)
  have O3 := P3
  have L3 := Nat.le_trans hB.size L3
  have hB := ethen hB e22
  refine ⟨_, (O3.at 0 rfl rfl), ?_⟩
  refine ⟨_, (O3.at 1 rfl rfl), ?_⟩
  refine ⟨_, _, _, (O3.at 2 rfl rfl), ?_⟩
  obtain ⟨hp25, H⟩ := H
  obtain ⟨r23, hr24⟩ : ∃ r_, r_ = M.impl_LaneOk xs0 s1 := ⟨_, rfl⟩
  have H := H r23 hr24
  refine (impl_LaneOk.con hp25 hr24 (R0.ext hB) hc0 (R1_2.ext hB) hc1_2).mono ?_
  rintro _ w26 ⟨rfl, e27⟩
  have O3 := O3.ext e27
  have hB := ethen hB e27
  refine ⟨r23, rfl, ?_⟩
  refine bcase_mk (fun hc28 => ?_) (fun hc28 => ?_)
  · have H := (bcase_iff.1 H).1 hc28
    refine ⟨_, (O3.at 1 rfl rfl), ?_⟩
    obtain rfl := hr.trans H.symm
    exact ⟨rfl, hB⟩
  · have H := (bcase_iff.1 H).2 hc28
    obtain rfl := hr.trans H.symm
    exact ⟨rfl, hB⟩

def impl_ReachableFrom.vc (A0 : Option Addr) (n0 : Nat) (c0 : Nat) (x1 : Int) (w : World) (K : Value → World → Prop) : Prop :=
  Cll Try.prog 142 #[(.slice A0 n0 c0), (.int .i64 x1)] w fun v21 w22 => (∃ (b23 : Bool), v21 = (.bool b23) ∧ bcase (!b23) (K (.slice none 0 0) w22) (Run Try.prog (Instr.buildSlice 24 1 #[(0, (.int .i64 x1))]) w22 fun v24 w25 => ∃ (A26 : Option Addr) (n27 c28 : Nat), v24 = .slice A26 n27 c28 ∧ Cll Try.prog 90 #[(.slice A0 n0 c0), (.slice A26 n27 c28), (.int .i64 (-1))] w25 fun v29 w30 => (∃ (A31 : Option Addr) (n32 : Nat) (c33 : Nat), v29 = (.slice A31 n32 c33) ∧ Cll Try.prog 134 #[(.slice A31 n32 c33)] w30 fun v34 w35 => (∃ (A36 : Option Addr) (n37 : Nat) (c38 : Nat), v34 = (.slice A36 n37 c38) ∧ K (.slice A36 n37 c38) w35))))

def impl_ReachableFrom.ann : Ann := (.seq .l (.seq (.seq .l (.two (.seq .l .l) .l)) (.seq .l .l)))

theorem impl_ReachableFrom.vc_eq (A0 : Option Addr) (n0 : Nat) (c0 : Nat) (x1 : Int) (w : World) (K : Value → World → Prop) : vcF Try.prog Try.f88 impl_ReachableFrom.ann [(.slice A0 n0 c0), (.int .i64 x1)] K w = impl_ReachableFrom.vc A0 n0 c0 x1 w K := by kernel_rfl

theorem impl_ReachableFrom.start {A0 : Option Addr} {n0 : Nat} {c0 : Nat} {x1 : Int} {w : World} {K : Value → World → Prop} (h : impl_ReachableFrom.vc A0 n0 c0 x1 w K) : Cll Try.prog 88 #[(.slice A0 n0 c0), (.int .i64 x1)] w K :=
  vcF_sound mixed (fn := Try.f88) (by kernel_rfl) (by kernel_rfl) (an := impl_ReachableFrom.ann) (args := [(.slice A0 n0 c0), (.int .i64 x1)]) (by rw [impl_ReachableFrom.vc_eq]; exact h)

theorem impl_ReachableFrom.con {xs0 : List D.Ins} {A0 : Option Addr} {c0 : Nat} {x1 : Int} {r : List Int} {w : World} (hp : M.impl_ReachableFrom_pre xs0 x1) (hr : r = M.impl_ReachableFrom xs0 x1) (R0 : Row el76 w A0 xs0) (hc0 : xs0.length ≤ c0) :
    Cll Try.prog 88 #[(.slice A0 xs0.length c0), (.int .i64 x1)] w (fun v_ w_ => ∃ (A0_ : Option Addr) (c0_ : Nat), v_ = (.slice A0_ r.length c0_) ∧ Own el3 w_ w.heap.size A0_ c0_ r ∧ Ext w w_) := by
  have H := wp.impl_ReachableFrom.math xs0 x1 hp
  have hB := Ext.refl w
  refine impl_ReachableFrom.start ?_
  unfold impl_ReachableFrom.vc
  unfold wp.impl_ReachableFrom at H
  obtain ⟨hp23, H⟩ := H
  obtain ⟨r21, hr22⟩ : ∃ r_, r_ = M.impl_isNode xs0 x1 := ⟨_, rfl⟩
  have H := H r21 hr22
  refine (impl_isNode.con hp23 hr22 (R0.ext hB) hc0).mono ?_
  rintro _ w24 ⟨rfl, e25⟩
  have hB := ethen hB e25
  refine ⟨r21, rfl, ?_⟩
  refine bcase_mk (fun hc43 => ?_) (fun hc43 => ?_)
  · have H := (bcase_iff.1 H).1 hc43
    obtain rfl := hr.trans H.symm
    exact ⟨none, 0, rfl, Own.nil, hB⟩
  · have H := (bcase_iff.1 H).2 hc43
    refine buildOwn el3 ([x1] : List Int) (fun _ => by kernel_rfl) rfl (fun A26 w27 P2 e28 => ?_)
    have O2 := P2.mono hB.size
    have hB := ethen hB e28
    obtain ⟨hp31, H⟩ := H
    obtain ⟨r29, hr30⟩ : ∃ r_, r_ = M.impl_reached xs0 ([x1] : List Int) (-1) := ⟨_, rfl⟩
    have H := H r29 hr30
    refine (cllArgs (by first | (simp only [List.length_set]; done) | (simp; done)) (impl_reached.con hp31 hr30 (R0.ext hB) hc0 O2.row O2.le)).mono ?_
    rintro _ w32 ⟨A34, c35, rfl, P3, e33⟩
    have N2_3 := Own.apart2_new O2 P3 (Nat.le_refl _)
    have O2 := O2.ext e33
    have O3 := P3.mono hB.size
    have hB := ethen hB e33
    refine ⟨A34, r29.length, c35, rfl, ?_⟩
    obtain ⟨hp38, H⟩ := H
    obtain ⟨r36, hr37⟩ : ∃ r_, r_ = M.impl_trues r29 := ⟨_, rfl⟩
    have H := H r36 hr37
    refine (impl_trues.con hp38 hr37 O3.row O3.le).mono ?_
    rintro _ w39 ⟨A41, c42, rfl, P4, e40⟩
    have N2_4 := Own.apart2_new O2 P4 (Nat.le_refl _)
    have N3_4 := Own.apart2_new O3 P4 (Nat.le_refl _)
    have O2 := O2.ext e40
    have O3 := O3.ext e40
    have O4 := P4.mono hB.size
    have hB := ethen hB e40
    refine ⟨A41, r36.length, c42, rfl, ?_⟩
    obtain rfl := hr.trans H.symm
    exact ⟨A41, c42, rfl, O4, hB⟩

def impl_AlwaysEnds_1.vc (x0 : Int) (p1 : Addr) (w : World) (K : Value → World → Prop) : Prop :=
  ((∃ (A21 : Option Addr) (n22 : Nat) (c23 : Nat), w.drew.cell? (p1.add 0) = some (.slice A21 n22 c23) ∧ ((∃ (A24 : Option Addr) (n25 : Nat) (c26 : Nat), w.drew.cell? (p1.add 0) = some (.slice A24 n25 c26) ∧ ((Cll Try.prog 91 #[(.slice A24 n25 c26), (.int .i64 x0)] w.drew fun v27 w28 => (∃ (A29 : Option Addr) (n30 : Nat) (c31 : Nat), v27 = (.slice A29 n30 c31) ∧ ((Cll Try.prog 90 #[(.slice A21 n22 c23), (.slice A29 n30 c31), (.int .i64 (-1))] w28 fun v32 w33 => (∃ (A34 : Option Addr) (n35 : Nat) (c36 : Nat), v32 = (.slice A34 n35 c36) ∧ ((0 : Int) ≤ x0 ∧ x0 < ((n35 : Nat) : Int) ∧ ∃ a37 : Addr, A34 = some a37 ∧ ((∃ (b38 : Bool), w33.cell? ((a37.add ((x0.toNat) * 1)).add 0) = some (.bool b38) ∧ K (.bool b38) w33) ∧ True)))) ∧ True))) ∧ True)) ∧ True)) ∧ (∃ (A39 : Option Addr) (n40 : Nat) (c41 : Nat), w.drew.cell? (p1.add 0) = some (.slice A39 n40 c41) ∧ ((∃ (A42 : Option Addr) (n43 : Nat) (c44 : Nat), w.drew.cell? (p1.add 0) = some (.slice A42 n43 c44) ∧ ((Cll Try.prog 91 #[(.slice A39 n40 c41), (.int .i64 x0)] w.drew fun v45 w46 => (∃ (A47 : Option Addr) (n48 : Nat) (c49 : Nat), v45 = (.slice A47 n48 c49) ∧ ((Cll Try.prog 90 #[(.slice A42 n43 c44), (.slice A47 n48 c49), (.int .i64 (-1))] w46 fun v50 w51 => (∃ (A52 : Option Addr) (n53 : Nat) (c54 : Nat), v50 = (.slice A52 n53 c54) ∧ ((0 : Int) ≤ x0 ∧ x0 < ((n53 : Nat) : Int) ∧ ∃ a55 : Addr, A52 = some a55 ∧ ((∃ (b56 : Bool), w51.cell? ((a55.add ((x0.toNat) * 1)).add 0) = some (.bool b56) ∧ K (.bool b56) w51) ∧ True)))) ∧ True))) ∧ True)) ∧ (Cll Try.prog 91 #[(.slice A39 n40 c41), (.int .i64 x0)] w.drew fun v57 w58 => (∃ (A59 : Option Addr) (n60 : Nat) (c61 : Nat), v57 = (.slice A59 n60 c61) ∧ ((∃ (A62 : Option Addr) (n63 : Nat) (c64 : Nat), w58.cell? (p1.add 0) = some (.slice A62 n63 c64) ∧ ((Cll Try.prog 90 #[(.slice A62 n63 c64), (.slice A59 n60 c61), (.int .i64 (-1))] w58 fun v65 w66 => (∃ (A67 : Option Addr) (n68 : Nat) (c69 : Nat), v65 = (.slice A67 n68 c69) ∧ ((0 : Int) ≤ x0 ∧ x0 < ((n68 : Nat) : Int) ∧ ∃ a70 : Addr, A67 = some a70 ∧ ((∃ (b71 : Bool), w66.cell? ((a70.add ((x0.toNat) * 1)).add 0) = some (.bool b71) ∧ K (.bool b71) w66) ∧ True)))) ∧ True)) ∧ True))) ∧ True)) ∧ True)

def impl_AlwaysEnds_1.ann : Ann := (.seq .l (.seq .each .l))

theorem impl_AlwaysEnds_1.vc_eq (x0 : Int) (p1 : Addr) (w : World) (K : Value → World → Prop) : vcF Try.prog Try.f89 impl_AlwaysEnds_1.ann [(.int .i64 x0), (.pointer (some p1))] K w = impl_AlwaysEnds_1.vc x0 p1 w K := by kernel_rfl

theorem impl_AlwaysEnds_1.start {x0 : Int} {p1 : Addr} {w : World} {K : Value → World → Prop} (h : impl_AlwaysEnds_1.vc x0 p1 w K) : Cll Try.prog 89 #[(.int .i64 x0), (.pointer (some p1))] w K :=
  vcF_sound mixed (fn := Try.f89) (by kernel_rfl) (by kernel_rfl) (an := impl_AlwaysEnds_1.ann) (args := [(.int .i64 x0), (.pointer (some p1))]) (by rw [impl_AlwaysEnds_1.vc_eq]; exact h)

theorem impl_AlwaysEnds_1.con {x0 : Int} {xs1 : List D.Ins} {g1_ : Nat} {A1_0 : Option Addr} {c1_0 : Nat} {r : Bool} {w : World} (hp : M.impl_AlwaysEnds_1_pre x0 xs1) (hr : r = M.impl_AlwaysEnds_1 x0 xs1) (O1 : Blk w g1_ 29 #[(.slice A1_0 xs1.length c1_0)]) (R1_0 : Row el76 w A1_0 xs1) (hc1_0 : xs1.length ≤ c1_0) :
    Cll Try.prog 89 #[(.int .i64 x0), (.pointer (some (⟨g1_, 0, none⟩ : Addr)))] w (fun v_ w_ => v_ = (.bool r) ∧ Ext w w_) := by
  have H := wp.impl_AlwaysEnds_1.math x0 xs1 hp
  have hB := Ext.refl w
  refine impl_AlwaysEnds_1.start ?_
  unfold impl_AlwaysEnds_1.vc
  unfold wp.impl_AlwaysEnds_1 at H
  have O1 := O1.ext (Ext.drew _)
  have hB := ethen hB (Ext.drew _)
  refine And.intro ?_ ?_
  · have H := H.1
    refine ⟨_, _, _, (O1.at 0 rfl rfl), ?_⟩
    refine and_t ?_
    refine ⟨_, _, _, (O1.at 0 rfl rfl), ?_⟩
    refine and_t ?_
    obtain ⟨hp23, H⟩ := H
    obtain ⟨r21, hr22⟩ : ∃ r_, r_ = M.impl_next xs1 x0 := ⟨_, rfl⟩
    have H := H r21 hr22
    refine (impl_next.con hp23 hr22 (R1_0.ext hB) hc1_0).mono ?_
    rintro _ w24 ⟨A26, c27, rfl, P3, e25⟩
    have N3_1 := P3.apart_old O1.lt
    have O1 := O1.ext e25
    have O3 := P3.mono hB.size
    have hB := ethen hB e25
    refine ⟨A26, r21.length, c27, rfl, ?_⟩
    refine and_t ?_
    obtain ⟨hp30, H⟩ := H
    obtain ⟨r28, hr29⟩ : ∃ r_, r_ = M.impl_reached xs1 r21 (-1) := ⟨_, rfl⟩
    have H := H r28 hr29
    refine (impl_reached.con hp30 hr29 (R1_0.ext hB) hc1_0 O3.row O3.le).mono ?_
    rintro _ w31 ⟨A33, c34, rfl, P4, e32⟩
    have N4_1 := P4.apart_old O1.lt
    have N3_4 := Own.apart2_new O3 P4 (Nat.le_refl _)
    have O1 := O1.ext e32
    have O3 := O3.ext e32
    have O4 := P4.mono hB.size
    have hB := ethen hB e32
    refine ⟨A33, r28.length, c34, rfl, ?_⟩
    obtain ⟨⟨h0_38, h1_39⟩, H⟩ := H
    obtain ⟨a36, ha37, hat35⟩ := Row.at O4.row h0_38 h1_39
    refine ⟨h0_38, h1_39, a36, ha37, ?_⟩
    refine and_t ?_
    refine ⟨_, (hat35 0 _ rfl), ?_⟩
    obtain rfl := hr.trans H.symm
    exact ⟨rfl, hB⟩
  · refine And.intro ?_ ?_
    · have H := H.2.1
      refine ⟨_, _, _, (O1.at 0 rfl rfl), ?_⟩
      refine And.intro ?_ ?_
      · have H := H.1
        refine ⟨_, _, _, (O1.at 0 rfl rfl), ?_⟩
        refine and_t ?_
        obtain ⟨hp42, H⟩ := H
        obtain ⟨r40, hr41⟩ : ∃ r_, r_ = M.impl_next xs1 x0 := ⟨_, rfl⟩
        have H := H r40 hr41
        refine (impl_next.con hp42 hr41 (R1_0.ext hB) hc1_0).mono ?_
        rintro _ w43 ⟨A45, c46, rfl, P5, e44⟩
        have N5_1 := P5.apart_old O1.lt
        have O1 := O1.ext e44
        have O5 := P5.mono hB.size
        have hB := ethen hB e44
        refine ⟨A45, r40.length, c46, rfl, ?_⟩
        refine and_t ?_
        obtain ⟨hp49, H⟩ := H
        obtain ⟨r47, hr48⟩ : ∃ r_, r_ = M.impl_reached xs1 r40 (-1) := ⟨_, rfl⟩
        have H := H r47 hr48
        refine (impl_reached.con hp49 hr48 (R1_0.ext hB) hc1_0 O5.row O5.le).mono ?_
        rintro _ w50 ⟨A52, c53, rfl, P6, e51⟩
        have N6_1 := P6.apart_old O1.lt
        have N5_6 := Own.apart2_new O5 P6 (Nat.le_refl _)
        have O1 := O1.ext e51
        have O5 := O5.ext e51
        have O6 := P6.mono hB.size
        have hB := ethen hB e51
        refine ⟨A52, r47.length, c53, rfl, ?_⟩
        obtain ⟨⟨h0_57, h1_58⟩, H⟩ := H
        obtain ⟨a55, ha56, hat54⟩ := Row.at O6.row h0_57 h1_58
        refine ⟨h0_57, h1_58, a55, ha56, ?_⟩
        refine and_t ?_
        refine ⟨_, (hat54 0 _ rfl), ?_⟩
        obtain rfl := hr.trans H.symm
        exact ⟨rfl, hB⟩
      · refine And.intro ?_ ?_
        · have H := H.2.1
          obtain ⟨hp61, H⟩ := H
          obtain ⟨r59, hr60⟩ : ∃ r_, r_ = M.impl_next xs1 x0 := ⟨_, rfl⟩
          have H := H r59 hr60
          refine (impl_next.con hp61 hr60 (R1_0.ext hB) hc1_0).mono ?_
          rintro _ w62 ⟨A64, c65, rfl, P7, e63⟩
          have N7_1 := P7.apart_old O1.lt
          have O1 := O1.ext e63
          have O7 := P7.mono hB.size
          have hB := ethen hB e63
          refine ⟨A64, r59.length, c65, rfl, ?_⟩
          refine and_t ?_
          refine ⟨_, _, _, (O1.at 0 rfl rfl), ?_⟩
          refine and_t ?_
          obtain ⟨hp68, H⟩ := H
          obtain ⟨r66, hr67⟩ : ∃ r_, r_ = M.impl_reached xs1 r59 (-1) := ⟨_, rfl⟩
          have H := H r66 hr67
          refine (impl_reached.con hp68 hr67 (R1_0.ext hB) hc1_0 O7.row O7.le).mono ?_
          rintro _ w69 ⟨A71, c72, rfl, P8, e70⟩
          have N8_1 := P8.apart_old O1.lt
          have N7_8 := Own.apart2_new O7 P8 (Nat.le_refl _)
          have O1 := O1.ext e70
          have O7 := O7.ext e70
          have O8 := P8.mono hB.size
          have hB := ethen hB e70
          refine ⟨A71, r66.length, c72, rfl, ?_⟩
          obtain ⟨⟨h0_76, h1_77⟩, H⟩ := H
          obtain ⟨a74, ha75, hat73⟩ := Row.at O8.row h0_76 h1_77
          refine ⟨h0_76, h1_77, a74, ha75, ?_⟩
          refine and_t ?_
          refine ⟨_, (hat73 0 _ rfl), ?_⟩
          obtain rfl := hr.trans H.symm
          exact ⟨rfl, hB⟩
        · exact trivial
    · exact trivial

def impl_AlwaysEnds.vc (A0 : Option Addr) (n0 : Nat) (c0 : Nat) (w : World) (K : Value → World → Prop) : Prop :=
  newK w (.cells #[(.slice A0 n0 c0)] 29) fun g21 w22 => ∃ (A23 : Option Addr) (n24 : Nat) (c25 : Nat), w22.cell? ((⟨g21, 0, none⟩ : Addr).add 0) = some (.slice A23 n24 c25) ∧ Cll Try.prog 76 #[(.slice A23 n24 c25)] w22 fun v26 w27 => (∃ (b28 : Bool), v26 = (.bool b28) ∧ bcase b28 (∃ (A29 : Option Addr) (n30 : Nat) (c31 : Nat), w27.cell? ((⟨g21, 0, none⟩ : Addr).add 0) = some (.slice A29 n30 c31) ∧ Cll Try.prog 88 #[(.slice A29 n30 c31), (.int .i64 0)] w27 fun v32 w33 => (∃ (A34 : Option Addr) (n35 : Nat) (c36 : Nat), v32 = (.slice A34 n35 c36) ∧ Cll Try.prog 77 #[(.slice A34 n35 c36), (.func (.func 89) #[] #[(.pointer (some (⟨g21, 0, none⟩ : Addr)))])] w33 fun v37 w38 => (∃ (b39 : Bool), v37 = (.bool b39) ∧ K (.bool (!b39)) w38))) (K (.bool false) w27))

def impl_AlwaysEnds.ann : Ann := (.seq .l (.seq .l .l))

theorem impl_AlwaysEnds.vc_eq (A0 : Option Addr) (n0 : Nat) (c0 : Nat) (w : World) (K : Value → World → Prop) : vcF Try.prog Try.f40 impl_AlwaysEnds.ann [(.slice A0 n0 c0)] K w = impl_AlwaysEnds.vc A0 n0 c0 w K := by kernel_rfl

theorem impl_AlwaysEnds.start {A0 : Option Addr} {n0 : Nat} {c0 : Nat} {w : World} {K : Value → World → Prop} (h : impl_AlwaysEnds.vc A0 n0 c0 w K) : Cll Try.prog 40 #[(.slice A0 n0 c0)] w K :=
  vcF_sound mixed (fn := Try.f40) (by kernel_rfl) (by kernel_rfl) (an := impl_AlwaysEnds.ann) (args := [(.slice A0 n0 c0)]) (by rw [impl_AlwaysEnds.vc_eq]; exact h)

theorem impl_AlwaysEnds.con {xs0 : List D.Ins} {A0 : Option Addr} {c0 : Nat} {r : Bool} {w : World} (hp : M.impl_AlwaysEnds_pre xs0) (hr : r = M.impl_AlwaysEnds xs0) (R0 : Row el76 w A0 xs0) (hc0 : xs0.length ≤ c0) :
    Cll Try.prog 40 #[(.slice A0 xs0.length c0)] w (fun v_ w_ => v_ = (.bool r) ∧ Ext w w_) := by
  have H := wp.impl_AlwaysEnds.math xs0 hp
  have hB := Ext.refl w
  refine impl_AlwaysEnds.start ?_
  unfold impl_AlwaysEnds.vc
  unfold wp.impl_AlwaysEnds at H
  refine newBlk (fun g2_ w21 L2 P2 e22 => ?_)
  have O2 := P2
  have L2 := Nat.le_trans hB.size L2
  have hB := ethen hB e22
  refine ⟨_, _, _, (O2.at 0 rfl rfl), ?_⟩
  obtain ⟨hp25, H⟩ := H
  obtain ⟨r23, hr24⟩ : ∃ r_, r_ = M.impl_ProgramOk xs0 := ⟨_, rfl⟩
  have H := H r23 hr24
  refine (impl_ProgramOk.con hp25 hr24 (R0.ext hB) hc0).mono ?_
  rintro _ w26 ⟨rfl, e27⟩
  have O2 := O2.ext e27
  have hB := ethen hB e27
  refine ⟨r23, rfl, ?_⟩
  refine bcase_mk (fun hc40 => ?_) (fun hc40 => ?_)
  · have H := (bcase_iff.1 H).1 hc40
    refine ⟨_, _, _, (O2.at 0 rfl rfl), ?_⟩
    obtain ⟨hp30, H⟩ := H
    obtain ⟨r28, hr29⟩ : ∃ r_, r_ = M.impl_ReachableFrom xs0 0 := ⟨_, rfl⟩
    have H := H r28 hr29
    refine (impl_ReachableFrom.con hp30 hr29 (R0.ext hB) hc0).mono ?_
    rintro _ w31 ⟨A33, c34, rfl, P3, e32⟩
    have N3_2 := P3.apart_old O2.lt
    have O2 := O2.ext e32
    have O3 := P3.mono hB.size
    have hB := ethen hB e32
    refine ⟨A33, r28.length, c34, rfl, ?_⟩
    obtain ⟨hp37, H⟩ := H
    obtain ⟨r35, hr36⟩ : ∃ r_, r_ = M.slices_ContainsFunc_int_int r28 (fun z0_ => M.impl_AlwaysEnds_1 z0_ xs0) := ⟨_, rfl⟩
    have H := H r35 hr36
    refine (slices_ContainsFunc_int_int.con hp37 hr36 O3.row O3.le (fun z0_ h_ w_ e_ => cllApp (l1 := [_]) (l2 := [_]) (impl_AlwaysEnds_1.con h_ rfl (O2.ext e_) (R0.ext (ethen hB e_)) hc0))).mono ?_
    rintro _ w38 ⟨rfl, e39⟩
    have O2 := O2.ext e39
    have O3 := O3.ext e39
    have hB := ethen hB e39
    refine ⟨r35, rfl, ?_⟩
    obtain rfl := hr.trans H.symm
    exact ⟨rfl, hB⟩
  · have H := (bcase_iff.1 H).2 hc40
    obtain rfl := hr.trans H.symm
    exact ⟨rfl, hB⟩

def laws_FnEnds.vc (A0 : Option Addr) (n0 : Nat) (c0 : Nat) (w : World) (K : Value → World → Prop) : Prop :=
  Cll Try.prog 34 #[(.slice A0 n0 c0)] w fun v21 w22 => (∃ (b23 : Bool), v21 = (.bool b23) ∧ bcase b23 (K (.bool true) w22) (Cll Try.prog 35 #[(.slice A0 n0 c0)] w22 fun v24 w25 => (∃ (A26 : Option Addr) (n27 : Nat) (c28 : Nat), v24 = (.slice A26 n27 c28) ∧ Cll Try.prog 36 #[(.slice A0 n0 c0)] w25 fun v29 w30 => (∃ (A31 : Option Addr) (n32 : Nat) (c33 : Nat), v29 = (.slice A31 n32 c33) ∧ ((0 : Int) ≤ 0 ∧ 0 < ((n32 : Nat) : Int) ∧ ∃ a34 : Addr, A31 = some a34 ∧ ∃ (n35 : Int), w30.cell? ((a34.add (((0 : Int).toNat) * 1)).add 0) = some (.int .i64 n35) ∧ ((24 : Int) ≠ 0 ∧ Cll Try.prog 37 #[(.slice A26 n27 c28), (.int .i64 (Int.tmod n35 24))] w30 fun v36 w37 => (∃ (n38 : Int), v36 = (.int .i64 n38) ∧ Cll Try.prog 38 #[(.slice A26 n27 c28), (.int .i64 (Int.tmod n35 24))] w37 fun v39 w40 => (∃ u41 : Value, (∃ (n42 : Int), True ∧ ∃ (n43 : Int), True ∧ ∃ (A44 : Option Addr) (n45 : Nat) (c46 : Nat), True ∧ u41 = (.agg #[(.int .i64 n42), (.int .i64 n43), (.slice A44 n45 c46)]) ∧ ∃ u47 : Value, (∃ (b48 : Bool), u47 = (.bool b48) ∧ v39 = (.tuple #[(.agg #[(.int .i64 n42), (.int .i64 n43), (.slice A44 n45 c46)]), (.bool b48)]) ∧ newK w40 (.cells #[(.int .i64 0), (.int .i64 0), (.slice none 0 0)] 57) fun g49 w50 => stCells (⟨g49, 0, none⟩ : Addr) [(.int .i64 n42), (.int .i64 n43), (.slice A44 n45 c46)] 0 w50 fun w51 => JoinT (σ := Unit) (fun J52 => bcase (!(b48 == (decide (n38 ≥ 0)))) (K (.bool false) w51) (bcase b48 (∃ (n53 : Int), w51.cell? ((⟨g49, 0, none⟩ : Addr).add 0) = some (.int .i64 n53) ∧ ∃ (n54 : Int), w51.cell? ((⟨g49, 0, none⟩ : Addr).add 1) = some (.int .i64 n54) ∧ ∃ (A55 : Option Addr) (n56 : Nat) (c57 : Nat), w51.cell? ((⟨g49, 0, none⟩ : Addr).add 2) = some (.slice A55 n56 c57) ∧ Cll Try.prog 39 #[(.slice A26 n27 c28), (.agg #[(.int .i64 n53), (.int .i64 n54), (.slice A55 n56 c57)])] w51 fun v58 w59 => (∃ (b60 : Bool), v58 = (.bool b60) ∧ bcase (!b60) (K (.bool false) w59) (J52 () w59))) (J52 () w51))) fun z61 w62 => JoinT (σ := Unit) (fun J63 => bcase (!b48) (Cll Try.prog 40 #[(.slice A26 n27 c28)] w62 fun v64 w65 => (∃ (b66 : Bool), v64 = (.bool b66) ∧ bcase b66 (K (.bool false) w65) (J63 () w65))) (J63 () w62)) fun z67 w68 => Cll Try.prog 40 #[(.slice A26 n27 c28)] w68 fun v69 w70 => (∃ (b71 : Bool), v69 = (.bool b71) ∧ bcase (!b71) (K (.bool true) w70) (K (.bool (decide (n38 ≤ ((n27 : Nat) : Int)))) w70))))))))))))

def laws_FnEnds.ann : Ann := (.seq .l (.seq (.seq .l (.two (.seq .l .l) .l)) (.seq .l (.seq .l (.seq .l (.seq .l (.seq .l (.cut [] (.seq .l (.two (.seq .l .l) .l)) (.cut [] (.seq .l (.two (.seq .l .l) .l)) (.seq .l .l))))))))))

theorem laws_FnEnds.vc_eq (A0 : Option Addr) (n0 : Nat) (c0 : Nat) (w : World) (K : Value → World → Prop) : vcF Try.prog Try.f9 laws_FnEnds.ann [(.slice A0 n0 c0)] K w = laws_FnEnds.vc A0 n0 c0 w K := by kernel_rfl

theorem laws_FnEnds.start {A0 : Option Addr} {n0 : Nat} {c0 : Nat} {w : World} {K : Value → World → Prop} (h : laws_FnEnds.vc A0 n0 c0 w K) : Cll Try.prog 9 #[(.slice A0 n0 c0)] w K :=
  vcF_sound mixed (fn := Try.f9) (by kernel_rfl) (by kernel_rfl) (an := laws_FnEnds.ann) (args := [(.slice A0 n0 c0)]) (by rw [laws_FnEnds.vc_eq]; exact h)

theorem laws_FnEnds.con {xs0 : List Int} {A0 : Option Addr} {c0 : Nat} {r : Bool} {w : World} (hp : M.laws_FnEnds_pre xs0) (hr : r = M.laws_FnEnds xs0) (R0 : Row el5 w A0 xs0) (hc0 : xs0.length ≤ c0) :
    Cll Try.prog 9 #[(.slice A0 xs0.length c0)] w (fun v_ w_ => v_ = (.bool r) ∧ Ext w w_) := by
  have H := wp.laws_FnEnds.math xs0 hp
  have hB := Ext.refl w
  refine laws_FnEnds.start ?_
  unfold laws_FnEnds.vc
  unfold wp.laws_FnEnds at H
  obtain ⟨r21, hr22⟩ : ∃ r_, r_ = M.laws_big xs0 := ⟨_, rfl⟩
  have H := H r21 hr22
  refine (laws_big.con hr22 (R0.ext hB) hc0).mono ?_
  rintro _ w24 ⟨rfl, e25⟩
  have hB := ethen hB e25
  refine ⟨r21, rfl, ?_⟩
  refine bcase_mk (fun hc93 => ?_) (fun hc93 => ?_)
  · have H := (bcase_iff.1 H).1 hc93
    obtain rfl := hr.trans H.symm
    exact ⟨rfl, hB⟩
  · have H := (bcase_iff.1 H).2 hc93
    obtain ⟨hp28, H⟩ := H
    obtain ⟨r26, hr27⟩ : ∃ r_, r_ = M.spec_DrawWild xs0 := ⟨_, rfl⟩
    have H := H r26 hr27
    refine (spec_DrawWild.con hp28 hr27 (R0.ext hB) hc0).mono ?_
    rintro _ w29 ⟨A31, c32, rfl, P2, e30⟩
    have O2 := P2.mono hB.size
    have hB := ethen hB e30
    refine ⟨A31, r26.length, c32, rfl, ?_⟩
    obtain ⟨hp35, H⟩ := H
    obtain ⟨r33, hr34⟩ : ∃ r_, r_ = M.spec_DrawPlaces xs0 := ⟨_, rfl⟩
    have H := H r33 hr34
    refine (spec_DrawPlaces.con hp35 hr34 (R0.ext hB) hc0).mono ?_
    rintro _ w36 ⟨A38, c39, rfl, P3, e37⟩
    have N2_3 := Own.apart2_new O2 P3 (Nat.le_refl _)
    have O2 := O2.ext e37
    have O3 := P3.mono hB.size
    have hB := ethen hB e37
    refine ⟨A38, r33.length, c39, rfl, ?_⟩
    obtain ⟨⟨h0_43, h1_44⟩, H⟩ := H
    obtain ⟨a41, ha42, hat40⟩ := Row.at O3.row h0_43 h1_44
    refine ⟨h0_43, h1_44, a41, ha42, ?_⟩
    refine ⟨_, (hat40 0 _ rfl), ?_⟩
    refine ⟨by decide, ?_⟩
    obtain ⟨hp48, H⟩ := H
    obtain ⟨r46, hr47⟩ : ∃ r_, r_ = M.impl_StepsAlone r26 (Int.tmod (rd r33 0) 24) := ⟨_, rfl⟩
    have H := H r46 hr47
    refine (impl_StepsAlone.con hp48 hr47 O2.row O2.le).mono ?_
    rintro _ w49 ⟨rfl, e50⟩
    have O2 := O2.ext e50
    have O3 := O3.ext e50
    have hB := ethen hB e50
    refine ⟨r46, rfl, ?_⟩
    obtain ⟨hp53, H⟩ := H
    obtain ⟨r51, hr52⟩ : ∃ r_, r_ = M.impl_RunAlone r26 (Int.tmod (rd r33 0) 24) := ⟨_, rfl⟩
    have H := H r51 hr52
    refine (impl_RunAlone.con hp53 hr52 O2.row O2.le).mono ?_
    rintro _ w54 ⟨A56, c57, rfl, P4, e55⟩
    have N2_4 := Own.apart2_new O2 P4 (Nat.le_refl _)
    have N3_4 := Own.apart2_new O3 P4 (Nat.le_refl _)
    have O2 := O2.ext e55
    have O3 := O3.ext e55
    have O4 := P4.mono hB.size
    have hB := ethen hB e55
    refine ⟨(.agg #[(.int .i64 r51.1.Thread), (.int .i64 r51.1.Pc), (.slice A56 r51.1.Regs.length c57)]), ?_⟩
    refine ⟨r51.1.Thread, trivial, ?_⟩
    refine ⟨r51.1.Pc, trivial, ?_⟩
    refine ⟨A56, r51.1.Regs.length, c57, trivial, ?_⟩
    refine ⟨rfl, ?_⟩
    refine ⟨(.bool r51.2), ?_⟩
    refine ⟨r51.2, rfl, ?_⟩
    refine ⟨rfl, ?_⟩
    refine newBlk (fun g5_ w58 L5 P5 e59 => ?_)
    have N2_5 := O2.apart_new L5
    have N3_5 := O3.apart_new L5
    have N4_5 := O4.apart_new L5
    have O2 := O2.ext e59
    have O3 := O3.ext e59
    have O4 := O4.ext e59
    have O5 := P5
    have L5 := Nat.le_trans hB.size L5
    have hB := ethen hB e59
    refine stBlk O5 (o := 0) (cs' := #[(.int .i64 r51.1.Thread), (.int .i64 r51.1.Pc), (.slice A56 r51.1.Regs.length c57)]) rfl rfl (Nat.le_of_ble_eq_true rfl) rfl (fun w60 P5 e61 => ?_)
    have O2_ := O2.chg e61 N2_5
    have O3_ := O3.chg e61 N3_5
    have O4_ := O4.chg e61 N4_5
    have O2 := O2_
    have O3 := O3_
    have O4 := O4_
    have hB := echg hB e61 L5
    have O5 := P5
    obtain ⟨K92, hKK92, H⟩ := joinP_out H
    refine ⟨fun z_ w_ => z_ = (()) ∧ K92 (()) ∧ Ext w w_ ∧ Own el76 w_ w.heap.size A31 c32 r26 ∧ Own el3 w_ w.heap.size A38 c39 r33 ∧ Own el3 w_ w.heap.size A56 c57 r51.1.Regs ∧ Blk w_ g5_ 57 #[(.int .i64 r51.1.Thread), (.int .i64 r51.1.Pc), (.slice A56 r51.1.Regs.length c57)], ?_, ?_⟩
    · refine bcase_mk (fun hc72 => ?_) (fun hc72 => ?_)
      · have H := (bcase_iff.1 H).1 hc72
        obtain rfl := hr.trans H.symm
        exact ⟨rfl, hB⟩
      · have H := (bcase_iff.1 H).2 hc72
        refine bcase_mk (fun hc71 => ?_) (fun hc71 => ?_)
        · have H := (bcase_iff.1 H).1 hc71
          refine ⟨_, (O5.at 0 rfl rfl), ?_⟩
          refine ⟨_, (O5.at 1 rfl rfl), ?_⟩
          refine ⟨_, _, _, (O5.at 2 rfl rfl), ?_⟩
          obtain ⟨hp67, H⟩ := H
          obtain ⟨r65, hr66⟩ : ∃ r_, r_ = M.impl_LaneEnded r26 r51.1 := ⟨_, rfl⟩
          have H := H r65 hr66
          refine (impl_LaneEnded.con hp67 hr66 O2.row O2.le O4.row O4.le).mono ?_
          rintro _ w68 ⟨rfl, e69⟩
          have O2 := O2.ext e69
          have O3 := O3.ext e69
          have O4 := O4.ext e69
          have O5 := O5.ext e69
          have hB := ethen hB e69
          refine ⟨r65, rfl, ?_⟩
          refine bcase_mk (fun hc70 => ?_) (fun hc70 => ?_)
          · have H := (bcase_iff.1 H).1 hc70
            obtain rfl := hr.trans H.symm
            exact ⟨rfl, hB⟩
          · have H := (bcase_iff.1 H).2 hc70
            exact ⟨rfl, H, hB, O2, O3, O4, O5⟩
        · have H := (bcase_iff.1 H).2 hc71
          exact ⟨rfl, H, hB, O2, O3, O4, O5⟩
    · rintro _ w63 ⟨rfl, H, hB, O2, O3, O4, O5⟩
      have H := hKK92 _ H
      try dsimp only at H ⊢
      obtain ⟨K90, hKK90, H⟩ := joinP_out H
      refine ⟨fun z_ w_ => z_ = (()) ∧ K90 (()) ∧ Ext w w_ ∧ Own el76 w_ w.heap.size A31 c32 r26 ∧ Own el3 w_ w.heap.size A38 c39 r33 ∧ Own el3 w_ w.heap.size A56 c57 r51.1.Regs ∧ Blk w_ g5_ 57 #[(.int .i64 r51.1.Thread), (.int .i64 r51.1.Pc), (.slice A56 r51.1.Regs.length c57)], ?_, ?_⟩
      · refine bcase_mk (fun hc82 => ?_) (fun hc82 => ?_)
        · have H := (bcase_iff.1 H).1 hc82
          obtain ⟨hp78, H⟩ := H
          obtain ⟨r76, hr77⟩ : ∃ r_, r_ = M.impl_AlwaysEnds r26 := ⟨_, rfl⟩
          have H := H r76 hr77
          refine (impl_AlwaysEnds.con hp78 hr77 O2.row O2.le).mono ?_
          rintro _ w79 ⟨rfl, e80⟩
          have O2 := O2.ext e80
          have O3 := O3.ext e80
          have O4 := O4.ext e80
          have O5 := O5.ext e80
          have hB := ethen hB e80
          refine ⟨r76, rfl, ?_⟩
          refine bcase_mk (fun hc81 => ?_) (fun hc81 => ?_)
          · have H := (bcase_iff.1 H).1 hc81
            obtain rfl := hr.trans H.symm
            exact ⟨rfl, hB⟩
          · have H := (bcase_iff.1 H).2 hc81
            exact ⟨rfl, H, hB, O2, O3, O4, O5⟩
        · have H := (bcase_iff.1 H).2 hc82
          exact ⟨rfl, H, hB, O2, O3, O4, O5⟩
      · rintro _ w74 ⟨rfl, H, hB, O2, O3, O4, O5⟩
        have H := hKK90 _ H
        try dsimp only at H ⊢
        obtain ⟨hp85, H⟩ := H
        obtain ⟨r83, hr84⟩ : ∃ r_, r_ = M.impl_AlwaysEnds r26 := ⟨_, rfl⟩
        have H := H r83 hr84
        refine (impl_AlwaysEnds.con hp85 hr84 O2.row O2.le).mono ?_
        rintro _ w86 ⟨rfl, e87⟩
        have O2 := O2.ext e87
        have O3 := O3.ext e87
        have O4 := O4.ext e87
        have O5 := O5.ext e87
        have hB := ethen hB e87
        refine ⟨r83, rfl, ?_⟩
        refine bcase_mk (fun hc88 => ?_) (fun hc88 => ?_)
        · have H := (bcase_iff.1 H).1 hc88
          obtain rfl := hr.trans H.symm
          exact ⟨rfl, hB⟩
        · have H := (bcase_iff.1 H).2 hc88
          obtain rfl := hr.trans H.symm
          exact ⟨rfl, hB⟩

end Go.V
