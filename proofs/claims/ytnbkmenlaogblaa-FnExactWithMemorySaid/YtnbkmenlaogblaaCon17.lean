import Derived.Test.YtnbkmenlaogblaaMath17
import Derived.Test.YtnbkmenlaogblaaSeat
import Derived.Test.YtnbkmenlaogblaaCon14
namespace Go.V
open Go.Proofs
set_option linter.unusedVariables false
set_option linter.unusedSimpArgs false
set_option maxRecDepth 100000

def slices_Clone_impl_Ins_impl_Ins.vc (A0 : Option Addr) (n0 : Nat) (c0 : Nat) (w : World) (K : Value → World → Prop) : Prop :=
  bcase (Option.isNone A0) (K (.slice none 0 0) w) (Run Try.prog (Instr.buildSlice 29 0 #[]) w fun v21 w22 => ∃ (A23 : Option Addr) (n24 c25 : Nat), v21 = .slice A23 n24 c25 ∧ Run Try.prog (Builtin.append_ #[29, 29] 29 #[(.slice A23 n24 c25), (.slice A0 n0 c0)]) w22 fun v26 w27 => ∃ (A28 : Option Addr) (n29 c30 : Nat), v26 = .slice A28 n29 c30 ∧ K (.slice A28 n29 c30) w27)

def slices_Clone_impl_Ins_impl_Ins.ann : Ann := (.seq .l (.seq (.seq .l (.two (.seq .l .l) .l)) (.seq .l .l)))

theorem slices_Clone_impl_Ins_impl_Ins.vc_eq (A0 : Option Addr) (n0 : Nat) (c0 : Nat) (w : World) (K : Value → World → Prop) : vcF Try.prog Try.f93 slices_Clone_impl_Ins_impl_Ins.ann [(.slice A0 n0 c0)] K w = slices_Clone_impl_Ins_impl_Ins.vc A0 n0 c0 w K := by kernel_rfl

theorem slices_Clone_impl_Ins_impl_Ins.start {A0 : Option Addr} {n0 : Nat} {c0 : Nat} {w : World} {K : Value → World → Prop} (h : slices_Clone_impl_Ins_impl_Ins.vc A0 n0 c0 w K) : Cll Try.prog 93 #[(.slice A0 n0 c0)] w K :=
  vcF_sound mixed (fn := Try.f93) (by kernel_rfl) (by kernel_rfl) (an := slices_Clone_impl_Ins_impl_Ins.ann) (args := [(.slice A0 n0 c0)]) (by rw [slices_Clone_impl_Ins_impl_Ins.vc_eq]; exact h)

theorem slices_Clone_impl_Ins_impl_Ins.con {xs0 : List D.Ins} {A0 : Option Addr} {c0 : Nat} {r : List D.Ins} {w : World} (hp : M.slices_Clone_impl_Ins_impl_Ins_pre xs0) (hr : r = M.slices_Clone_impl_Ins_impl_Ins xs0) (R0 : Row el76 w A0 xs0) (hc0 : xs0.length ≤ c0) :
    Cll Try.prog 93 #[(.slice A0 xs0.length c0)] w (fun v_ w_ => ∃ (A0_ : Option Addr) (c0_ : Nat), v_ = (.slice A0_ r.length c0_) ∧ Own el76 w_ w.heap.size A0_ c0_ r ∧ Ext w w_) := by
  have H := wp.slices_Clone_impl_Ins_impl_Ins.math xs0 hp
  have hB := Ext.refl w
  refine slices_Clone_impl_Ins_impl_Ins.start ?_
  unfold slices_Clone_impl_Ins_impl_Ins.vc
  unfold wp.slices_Clone_impl_Ins_impl_Ins at H
  obtain ⟨b21, hb22⟩ : ∃ b_, b_ = Option.isNone A0 := ⟨_, rfl⟩
  have H := H b21 (fun h_ => Row.isNone (R0.ext hB) (hb22.symm.trans h_))
  rw [← hb22]
  refine bcase_mk (fun hc31 => ?_) (fun hc31 => ?_)
  · have H := (bcase_iff.1 H).1 hc31
    obtain rfl := hr.trans H.symm
    exact ⟨none, 0, rfl, Own.nil, hB⟩
  · have H := (bcase_iff.1 H).2 hc31
    refine buildOwn el76 ([] : List D.Ins) (fun _ => by kernel_rfl) rfl (fun A23 w24 P2 e25 => ?_)
    have O2 := P2.mono hB.size
    have hB := ethen hB e25
    obtain ⟨hl30, H⟩ := H
    refine appOwn slt29 slt29.under O2 (R0.ext hB) hB.size (by first | rfl | omega | (simp; done) | (simp; omega)) rfl hl30 (fun A26 c27 w28 P2 e29 => ?_)
    have hB := eapp hB e29 O2
    have O2 := P2
    obtain rfl := hr.trans H.symm
    exact ⟨A26, c27, rfl, O2, hB⟩

def spec_l12Copy.vc (x0_0 : Int) (A0_1 : Option Addr) (n0_1 : Nat) (c0_1 : Nat) (A0_2 : Option Addr) (n0_2 : Nat) (c0_2 : Nat) (w : World) (K : Value → World → Prop) : Prop :=
  newK w (.cells #[(.int .i64 x0_0), (.slice A0_1 n0_1 c0_1), (.slice A0_2 n0_2 c0_2)] 102) fun g21 w22 => newK w22 (.cells #[(.int .i64 0), (.slice none 0 0), (.slice none 0 0)] 102) fun g23 w24 => (∃ M25 : Nat → Prop, ∃ (n26 : Int), (¬ M25 (((⟨g21, 0, none⟩ : Addr).add 0)).block ∧ w24.cell? (((⟨g21, 0, none⟩ : Addr).add 0).add 0) = some (.int .i64 n26)) ∧ ∃ (A27 : Option Addr) (n28 : Nat) (c29 : Nat), (¬ M25 (((⟨g21, 0, none⟩ : Addr).add 1)).block ∧ w24.cell? (((⟨g21, 0, none⟩ : Addr).add 1).add 0) = some (.slice A27 n28 c29)) ∧ ∃ (A30 : Option Addr) (n31 : Nat) (c32 : Nat), (¬ M25 (((⟨g21, 0, none⟩ : Addr).add 2)).block ∧ w24.cell? (((⟨g21, 0, none⟩ : Addr).add 2).add 0) = some (.slice A30 n31 c32)) ∧ ((Run Try.prog (Instr.buildSlice 100 0 #[]) w24.drew fun v33 w34 => ∃ (A35 : Option Addr) (n36 c37 : Nat), v33 = .slice A35 n36 c37 ∧ SameBut M25 w24 w34 ∧ ((Run Try.prog (Builtin.append_ #[100, 100] 100 #[(.slice A35 n36 c37), (.slice A27 n28 c29)]) w34 fun v38 w39 => ∃ (A40 : Option Addr) (n41 c42 : Nat), v38 = .slice A40 n41 c42 ∧ SameBut M25 w24 w39 ∧ Run Try.prog (Instr.buildSlice 24 0 #[]) w39 fun v43 w44 => ∃ (A45 : Option Addr) (n46 c47 : Nat), v43 = .slice A45 n46 c47 ∧ SameBut M25 w24 w44 ∧ Run Try.prog (Builtin.append_ #[24, 24] 24 #[(.slice A45 n46 c47), (.slice A30 n31 c32)]) w44 fun v48 w49 => ∃ (A50 : Option Addr) (n51 c52 : Nat), v48 = .slice A50 n51 c52 ∧ SameBut M25 w24 w49 ∧ stCells (⟨g23, 0, none⟩ : Addr) [(.int .i64 n26), (.slice A40 n41 c42), (.slice A50 n51 c52)] 0 w49 fun w53 => ∃ (n54 : Int), w53.cell? ((⟨g23, 0, none⟩ : Addr).add 0) = some (.int .i64 n54) ∧ ∃ (A55 : Option Addr) (n56 : Nat) (c57 : Nat), w53.cell? ((⟨g23, 0, none⟩ : Addr).add 1) = some (.slice A55 n56 c57) ∧ ∃ (A58 : Option Addr) (n59 : Nat) (c60 : Nat), w53.cell? ((⟨g23, 0, none⟩ : Addr).add 2) = some (.slice A58 n59 c60) ∧ K (.agg #[(.int .i64 n54), (.slice A55 n56 c57), (.slice A58 n59 c60)]) w53) ∧ (Run Try.prog (Instr.buildSlice 24 0 #[]) w34 fun v61 w62 => ∃ (A63 : Option Addr) (n64 c65 : Nat), v61 = .slice A63 n64 c65 ∧ SameBut M25 w24 w62 ∧ Run Try.prog (Builtin.append_ #[100, 100] 100 #[(.slice A35 n36 c37), (.slice A27 n28 c29)]) w62 fun v66 w67 => ∃ (A68 : Option Addr) (n69 c70 : Nat), v66 = .slice A68 n69 c70 ∧ SameBut M25 w24 w67 ∧ Run Try.prog (Builtin.append_ #[24, 24] 24 #[(.slice A63 n64 c65), (.slice A30 n31 c32)]) w67 fun v71 w72 => ∃ (A73 : Option Addr) (n74 c75 : Nat), v71 = .slice A73 n74 c75 ∧ SameBut M25 w24 w72 ∧ stCells (⟨g23, 0, none⟩ : Addr) [(.int .i64 n26), (.slice A68 n69 c70), (.slice A73 n74 c75)] 0 w72 fun w76 => ∃ (n77 : Int), w76.cell? ((⟨g23, 0, none⟩ : Addr).add 0) = some (.int .i64 n77) ∧ ∃ (A78 : Option Addr) (n79 : Nat) (c80 : Nat), w76.cell? ((⟨g23, 0, none⟩ : Addr).add 1) = some (.slice A78 n79 c80) ∧ ∃ (A81 : Option Addr) (n82 : Nat) (c83 : Nat), w76.cell? ((⟨g23, 0, none⟩ : Addr).add 2) = some (.slice A81 n82 c83) ∧ K (.agg #[(.int .i64 n77), (.slice A78 n79 c80), (.slice A81 n82 c83)]) w76) ∧ True)) ∧ (Run Try.prog (Instr.buildSlice 24 0 #[]) w24.drew fun v84 w85 => ∃ (A86 : Option Addr) (n87 c88 : Nat), v84 = .slice A86 n87 c88 ∧ SameBut M25 w24 w85 ∧ Run Try.prog (Instr.buildSlice 100 0 #[]) w85 fun v89 w90 => ∃ (A91 : Option Addr) (n92 c93 : Nat), v89 = .slice A91 n92 c93 ∧ SameBut M25 w24 w90 ∧ Run Try.prog (Builtin.append_ #[100, 100] 100 #[(.slice A91 n92 c93), (.slice A27 n28 c29)]) w90 fun v94 w95 => ∃ (A96 : Option Addr) (n97 c98 : Nat), v94 = .slice A96 n97 c98 ∧ SameBut M25 w24 w95 ∧ Run Try.prog (Builtin.append_ #[24, 24] 24 #[(.slice A86 n87 c88), (.slice A30 n31 c32)]) w95 fun v99 w100 => ∃ (A101 : Option Addr) (n102 c103 : Nat), v99 = .slice A101 n102 c103 ∧ SameBut M25 w24 w100 ∧ stCells (⟨g23, 0, none⟩ : Addr) [(.int .i64 n26), (.slice A96 n97 c98), (.slice A101 n102 c103)] 0 w100 fun w104 => ∃ (n105 : Int), w104.cell? ((⟨g23, 0, none⟩ : Addr).add 0) = some (.int .i64 n105) ∧ ∃ (A106 : Option Addr) (n107 : Nat) (c108 : Nat), w104.cell? ((⟨g23, 0, none⟩ : Addr).add 1) = some (.slice A106 n107 c108) ∧ ∃ (A109 : Option Addr) (n110 : Nat) (c111 : Nat), w104.cell? ((⟨g23, 0, none⟩ : Addr).add 2) = some (.slice A109 n110 c111) ∧ K (.agg #[(.int .i64 n105), (.slice A106 n107 c108), (.slice A109 n110 c111)]) w104) ∧ True))

def spec_l12Copy.ann : Ann := (.seq .l (.seq .l .l))

theorem spec_l12Copy.vc_eq (x0_0 : Int) (A0_1 : Option Addr) (n0_1 : Nat) (c0_1 : Nat) (A0_2 : Option Addr) (n0_2 : Nat) (c0_2 : Nat) (w : World) (K : Value → World → Prop) : vcF Try.prog Try.f119 spec_l12Copy.ann [(.agg #[(.int .i64 x0_0), (.slice A0_1 n0_1 c0_1), (.slice A0_2 n0_2 c0_2)])] K w = spec_l12Copy.vc x0_0 A0_1 n0_1 c0_1 A0_2 n0_2 c0_2 w K := by kernel_rfl

theorem spec_l12Copy.start {x0_0 : Int} {A0_1 : Option Addr} {n0_1 : Nat} {c0_1 : Nat} {A0_2 : Option Addr} {n0_2 : Nat} {c0_2 : Nat} {w : World} {K : Value → World → Prop} (h : spec_l12Copy.vc x0_0 A0_1 n0_1 c0_1 A0_2 n0_2 c0_2 w K) : Cll Try.prog 119 #[(.agg #[(.int .i64 x0_0), (.slice A0_1 n0_1 c0_1), (.slice A0_2 n0_2 c0_2)])] w K :=
  vcF_sound mixed (fn := Try.f119) (by kernel_rfl) (by kernel_rfl) (an := spec_l12Copy.ann) (args := [(.agg #[(.int .i64 x0_0), (.slice A0_1 n0_1 c0_1), (.slice A0_2 n0_2 c0_2)])]) (by rw [spec_l12Copy.vc_eq]; exact h)

theorem spec_l12Copy.con {s0 : D.Warp} {A0_1 : Option Addr} {c0_1 : Nat} {A0_2 : Option Addr} {c0_2 : Nat} {r : D.Warp} {w : World} (hp : M.spec_l12Copy_pre s0) (hr : r = M.spec_l12Copy s0) (R0_1 : Row el132 w A0_1 s0.Frames) (hc0_1 : s0.Frames.length ≤ c0_1) (R0_2 : Row el3 w A0_2 s0.Regs) (hc0_2 : s0.Regs.length ≤ c0_2) :
    Cll Try.prog 119 #[(.agg #[(.int .i64 s0.Number), (.slice A0_1 s0.Frames.length c0_1), (.slice A0_2 s0.Regs.length c0_2)])] w (fun v_ w_ => ∃ (A0_ : Option Addr) (c0_ : Nat) (A1_ : Option Addr) (c1_ : Nat), v_ = (.agg #[(.int .i64 r.Number), (.slice A0_ r.Frames.length c0_), (.slice A1_ r.Regs.length c1_)]) ∧ Own el132 w_ w.heap.size A0_ c0_ r.Frames ∧ Own el3 w_ w.heap.size A1_ c1_ r.Regs ∧ Ext w w_) := by
  have H := wp.spec_l12Copy.math s0 hp
  have hB := Ext.refl w
  refine spec_l12Copy.start ?_
  unfold spec_l12Copy.vc
  unfold wp.spec_l12Copy at H
  refine newBlk (fun g3_ w21 L3 P3 e22 => ?_)
  have O3 := P3
  have L3 := Nat.le_trans hB.size L3
  have hB := ethen hB e22
  refine newBlk (fun g4_ w23 L4 P4 e24 => ?_)
  have N3_4 := O3.ne L4
  have O3 := O3.ext e24
  have O4 := P4
  have L4 := Nat.le_trans hB.size L4
  have hB := ethen hB e24
  refine ⟨(fun _ => False), ?_⟩
  refine ⟨_, ⟨(fun h_ => h_), (O3.at 0 rfl rfl)⟩, ?_⟩
  refine ⟨_, _, _, ⟨(fun h_ => h_), (O3.at 1 rfl rfl)⟩, ?_⟩
  refine ⟨_, _, _, ⟨(fun h_ => h_), (O3.at 2 rfl rfl)⟩, ?_⟩
  refine And.intro ?_ ?_
  · have H := H.1
    have hS25 := Chg.refl (fun _ => False) w23
    have O3 := O3.ext (Ext.drew _)
    have O4 := O4.ext (Ext.drew _)
    have hB := ethen hB (Ext.drew _)
    have hS25 := hS25.then (Ext.drew _)
    refine buildOwn el132 ([] : List D.Frame) (fun _ => by kernel_rfl) rfl (fun A26 w27 P5 e28 => ?_)
    have N5_3 := P5.apart_old O3.lt
    have N5_4 := P5.apart_old O4.lt
    have O3 := O3.ext e28
    have O4 := O4.ext e28
    have LB5 := (P5.mono hS25.size).low
    have O5 := P5.mono hB.size
    have hB := ethen hB e28
    have hS25 := hS25.then e28
    refine ⟨sameBut_chg hS25, ?_⟩
    refine And.intro ?_ ?_
    · have H := H.1
      obtain ⟨hl33, H⟩ := H
      refine appOwn slt100 slt100.under O5 (R0_1.ext hB) hB.size (by first | rfl | omega | (simp; done) | (simp; omega)) rfl hl33 (fun A29 c30 w31 P5 e32 => ?_)
      have N5_3_ := Apart.app N5_3 e32 O3.lt
      have O3 := O3.app e32 N5_3
      have N5_3 := N5_3_
      have N5_4_ := Apart.app N5_4 e32 O4.lt
      have O4 := O4.app e32 N5_4
      have N5_4 := N5_4_
      have hsz5_ := hS25.size
      have hS25 := hS25.app e32 (fun g h_ => (Or.inl (LB5 g h_)))
      have LB5 := e32.low LB5 hsz5_
      have hB := eapp hB e32 O5
      have O5 := P5
      refine ⟨sameBut_chg hS25, ?_⟩
      refine buildOwn el3 ([] : List Int) (fun _ => by kernel_rfl) rfl (fun A34 w35 P6 e36 => ?_)
      have N6_3 := P6.apart_old O3.lt
      have N6_4 := P6.apart_old O4.lt
      have N5_6 := Own.apart2_new O5 P6 (Nat.le_refl _)
      have O3 := O3.ext e36
      have O4 := O4.ext e36
      have O5 := O5.ext e36
      have LB6 := (P6.mono hS25.size).low
      have O6 := P6.mono hB.size
      have hB := ethen hB e36
      have hS25 := hS25.then e36
      refine ⟨sameBut_chg hS25, ?_⟩
      obtain ⟨hl41, H⟩ := H
      refine appOwn slt24 slt24.under O6 (R0_2.ext hB) hB.size (by first | rfl | omega | (simp; done) | (simp; omega)) rfl hl41 (fun A37 c38 w39 P6 e40 => ?_)
      have N6_3_ := Apart.app N6_3 e40 O3.lt
      have O3 := O3.app e40 N6_3
      have N6_3 := N6_3_
      have N6_4_ := Apart.app N6_4 e40 O4.lt
      have O4 := O4.app e40 N6_4
      have N6_4 := N6_4_
      have N5_6_ := Apart2.app N5_6 e40 O5
      have O5 := O5.app e40 N5_6
      have N5_6 := N5_6_
      have hsz6_ := hS25.size
      have hS25 := hS25.app e40 (fun g h_ => (Or.inl (LB6 g h_)))
      have LB6 := e40.low LB6 hsz6_
      have hB := eapp hB e40 O6
      have O6 := P6
      refine ⟨sameBut_chg hS25, ?_⟩
      refine stBlk O4 (o := 0) (cs' := #[(.int .i64 s0.Number), (.slice A29 (((([] : List D.Frame) ++ s0.Frames)).length) c30), (.slice A37 (((([] : List Int) ++ s0.Regs)).length) c38)]) rfl rfl (Nat.le_of_ble_eq_true rfl) rfl (fun w42 P4 e43 => ?_)
      have O3_ := O3.chg e43 N3_4
      have O5_ := O5.chg e43 N5_4
      have O6_ := O6.chg e43 N6_4
      have O3 := O3_
      have O5 := O5_
      have O6 := O6_
      have hB := echg hB e43 L4
      have O4 := P4
      refine ⟨_, (O4.at 0 rfl rfl), ?_⟩
      refine ⟨_, _, _, (O4.at 1 rfl rfl), ?_⟩
      refine ⟨_, _, _, (O4.at 2 rfl rfl), ?_⟩
      obtain rfl := hr.trans H.symm
      exact ⟨A29, c30, A37, c38, rfl, O5, O6, hB⟩
    · refine And.intro ?_ ?_
      · have H := H.2.1
        refine buildOwn el3 ([] : List Int) (fun _ => by kernel_rfl) rfl (fun A44 w45 P7 e46 => ?_)
        have N7_3 := P7.apart_old O3.lt
        have N7_4 := P7.apart_old O4.lt
        have N5_7 := Own.apart2_new O5 P7 (Nat.le_refl _)
        have O3 := O3.ext e46
        have O4 := O4.ext e46
        have O5 := O5.ext e46
        have LB7 := (P7.mono hS25.size).low
        have O7 := P7.mono hB.size
        have hB := ethen hB e46
        have hS25 := hS25.then e46
        refine ⟨sameBut_chg hS25, ?_⟩
        obtain ⟨hl51, H⟩ := H
        refine appOwn slt100 slt100.under O5 (R0_1.ext hB) hB.size (by first | rfl | omega | (simp; done) | (simp; omega)) rfl hl51 (fun A47 c48 w49 P5 e50 => ?_)
        have N5_3_ := Apart.app N5_3 e50 O3.lt
        have O3 := O3.app e50 N5_3
        have N5_3 := N5_3_
        have N5_4_ := Apart.app N5_4 e50 O4.lt
        have O4 := O4.app e50 N5_4
        have N5_4 := N5_4_
        have N7_5_ := Apart2.app (N5_7).symm e50 O7
        have O7 := O7.app e50 (N5_7).symm
        have N7_5 := N7_5_
        have hsz5_ := hS25.size
        have hS25 := hS25.app e50 (fun g h_ => (Or.inl (LB5 g h_)))
        have LB5 := e50.low LB5 hsz5_
        have hB := eapp hB e50 O5
        have O5 := P5
        refine ⟨sameBut_chg hS25, ?_⟩
        obtain ⟨hl56, H⟩ := H
        refine appOwn slt24 slt24.under O7 (R0_2.ext hB) hB.size (by first | rfl | omega | (simp; done) | (simp; omega)) rfl hl56 (fun A52 c53 w54 P7 e55 => ?_)
        have N7_3_ := Apart.app N7_3 e55 O3.lt
        have O3 := O3.app e55 N7_3
        have N7_3 := N7_3_
        have N7_4_ := Apart.app N7_4 e55 O4.lt
        have O4 := O4.app e55 N7_4
        have N7_4 := N7_4_
        have N5_7_ := Apart2.app (N7_5).symm e55 O5
        have O5 := O5.app e55 (N7_5).symm
        have N5_7 := N5_7_
        have hsz7_ := hS25.size
        have hS25 := hS25.app e55 (fun g h_ => (Or.inl (LB7 g h_)))
        have LB7 := e55.low LB7 hsz7_
        have hB := eapp hB e55 O7
        have O7 := P7
        refine ⟨sameBut_chg hS25, ?_⟩
        refine stBlk O4 (o := 0) (cs' := #[(.int .i64 s0.Number), (.slice A47 (((([] : List D.Frame) ++ s0.Frames)).length) c48), (.slice A52 (((([] : List Int) ++ s0.Regs)).length) c53)]) rfl rfl (Nat.le_of_ble_eq_true rfl) rfl (fun w57 P4 e58 => ?_)
        have O3_ := O3.chg e58 N3_4
        have O5_ := O5.chg e58 N5_4
        have O7_ := O7.chg e58 N7_4
        have O3 := O3_
        have O5 := O5_
        have O7 := O7_
        have hB := echg hB e58 L4
        have O4 := P4
        refine ⟨_, (O4.at 0 rfl rfl), ?_⟩
        refine ⟨_, _, _, (O4.at 1 rfl rfl), ?_⟩
        refine ⟨_, _, _, (O4.at 2 rfl rfl), ?_⟩
        obtain rfl := hr.trans H.symm
        exact ⟨A47, c48, A52, c53, rfl, O5, O7, hB⟩
      · exact trivial
  · refine And.intro ?_ ?_
    · have H := H.2.1
      have hS25 := Chg.refl (fun _ => False) w23
      have O3 := O3.ext (Ext.drew _)
      have O4 := O4.ext (Ext.drew _)
      have hB := ethen hB (Ext.drew _)
      have hS25 := hS25.then (Ext.drew _)
      refine buildOwn el3 ([] : List Int) (fun _ => by kernel_rfl) rfl (fun A59 w60 P8 e61 => ?_)
      have N8_3 := P8.apart_old O3.lt
      have N8_4 := P8.apart_old O4.lt
      have O3 := O3.ext e61
      have O4 := O4.ext e61
      have LB8 := (P8.mono hS25.size).low
      have O8 := P8.mono hB.size
      have hB := ethen hB e61
      have hS25 := hS25.then e61
      refine ⟨sameBut_chg hS25, ?_⟩
      refine buildOwn el132 ([] : List D.Frame) (fun _ => by kernel_rfl) rfl (fun A62 w63 P9 e64 => ?_)
      have N9_3 := P9.apart_old O3.lt
      have N9_4 := P9.apart_old O4.lt
      have N8_9 := Own.apart2_new O8 P9 (Nat.le_refl _)
      have O3 := O3.ext e64
      have O4 := O4.ext e64
      have O8 := O8.ext e64
      have LB9 := (P9.mono hS25.size).low
      have O9 := P9.mono hB.size
      have hB := ethen hB e64
      have hS25 := hS25.then e64
      refine ⟨sameBut_chg hS25, ?_⟩
      obtain ⟨hl69, H⟩ := H
      refine appOwn slt100 slt100.under O9 (R0_1.ext hB) hB.size (by first | rfl | omega | (simp; done) | (simp; omega)) rfl hl69 (fun A65 c66 w67 P9 e68 => ?_)
      have N9_3_ := Apart.app N9_3 e68 O3.lt
      have O3 := O3.app e68 N9_3
      have N9_3 := N9_3_
      have N9_4_ := Apart.app N9_4 e68 O4.lt
      have O4 := O4.app e68 N9_4
      have N9_4 := N9_4_
      have N8_9_ := Apart2.app N8_9 e68 O8
      have O8 := O8.app e68 N8_9
      have N8_9 := N8_9_
      have hsz9_ := hS25.size
      have hS25 := hS25.app e68 (fun g h_ => (Or.inl (LB9 g h_)))
      have LB9 := e68.low LB9 hsz9_
      have hB := eapp hB e68 O9
      have O9 := P9
      refine ⟨sameBut_chg hS25, ?_⟩
      obtain ⟨hl74, H⟩ := H
      refine appOwn slt24 slt24.under O8 (R0_2.ext hB) hB.size (by first | rfl | omega | (simp; done) | (simp; omega)) rfl hl74 (fun A70 c71 w72 P8 e73 => ?_)
      have N8_3_ := Apart.app N8_3 e73 O3.lt
      have O3 := O3.app e73 N8_3
      have N8_3 := N8_3_
      have N8_4_ := Apart.app N8_4 e73 O4.lt
      have O4 := O4.app e73 N8_4
      have N8_4 := N8_4_
      have N9_8_ := Apart2.app (N8_9).symm e73 O9
      have O9 := O9.app e73 (N8_9).symm
      have N9_8 := N9_8_
      have hsz8_ := hS25.size
      have hS25 := hS25.app e73 (fun g h_ => (Or.inl (LB8 g h_)))
      have LB8 := e73.low LB8 hsz8_
      have hB := eapp hB e73 O8
      have O8 := P8
      refine ⟨sameBut_chg hS25, ?_⟩
      refine stBlk O4 (o := 0) (cs' := #[(.int .i64 s0.Number), (.slice A65 (((([] : List D.Frame) ++ s0.Frames)).length) c66), (.slice A70 (((([] : List Int) ++ s0.Regs)).length) c71)]) rfl rfl (Nat.le_of_ble_eq_true rfl) rfl (fun w75 P4 e76 => ?_)
      have O3_ := O3.chg e76 N3_4
      have O8_ := O8.chg e76 N8_4
      have O9_ := O9.chg e76 N9_4
      have O3 := O3_
      have O8 := O8_
      have O9 := O9_
      have hB := echg hB e76 L4
      have O4 := P4
      refine ⟨_, (O4.at 0 rfl rfl), ?_⟩
      refine ⟨_, _, _, (O4.at 1 rfl rfl), ?_⟩
      refine ⟨_, _, _, (O4.at 2 rfl rfl), ?_⟩
      obtain rfl := hr.trans H.symm
      exact ⟨A65, c66, A70, c71, rfl, O9, O8, hB⟩
    · exact trivial

def spec_l29Copy.vc (A0_0 : Option Addr) (n0_0 : Nat) (c0_0 : Nat) (A0_1 : Option Addr) (n0_1 : Nat) (c0_1 : Nat) (A0_2 : Option Addr) (n0_2 : Nat) (c0_2 : Nat) (x0_3 : Int) (x0_4 : Int) (w : World) (K : Value → World → Prop) : Prop :=
  newK w (.cells #[(.slice A0_0 n0_0 c0_0), (.slice A0_1 n0_1 c0_1), (.slice A0_2 n0_2 c0_2), (.int .i64 x0_3), (.int .i64 x0_4)] 32) fun g21 w22 => newK w22 (.cells #[(.slice none 0 0), (.slice none 0 0), (.slice none 0 0), (.int .i64 0), (.int .i64 0)] 32) fun g23 w24 => JoinT (σ := Addr × Unit) (fun J25 => (∃ M26 : Nat → Prop, ∃ (A27 : Option Addr) (n28 : Nat) (c29 : Nat), (¬ M26 (((⟨g21, 0, none⟩ : Addr).add 0)).block ∧ w24.cell? (((⟨g21, 0, none⟩ : Addr).add 0).add 0) = some (.slice A27 n28 c29)) ∧ ∃ (A30 : Option Addr) (n31 : Nat) (c32 : Nat), (¬ M26 (((⟨g21, 0, none⟩ : Addr).add 2)).block ∧ w24.cell? (((⟨g21, 0, none⟩ : Addr).add 2).add 0) = some (.slice A30 n31 c32)) ∧ ∃ (n33 : Int), (¬ M26 (((⟨g21, 0, none⟩ : Addr).add 3)).block ∧ w24.cell? (((⟨g21, 0, none⟩ : Addr).add 3).add 0) = some (.int .i64 n33)) ∧ ∃ (n34 : Int), (¬ M26 (((⟨g21, 0, none⟩ : Addr).add 4)).block ∧ w24.cell? (((⟨g21, 0, none⟩ : Addr).add 4).add 0) = some (.int .i64 n34)) ∧ ((Run Try.prog (Instr.buildSlice 29 0 #[]) w24.drew fun v35 w36 => ∃ (A37 : Option Addr) (n38 c39 : Nat), v35 = .slice A37 n38 c39 ∧ SameBut M26 w24 w36 ∧ ((Run Try.prog (Builtin.append_ #[29, 29] 29 #[(.slice A37 n38 c39), (.slice A27 n28 c29)]) w36 fun v40 w41 => ∃ (A42 : Option Addr) (n43 c44 : Nat), v40 = .slice A42 n43 c44 ∧ SameBut M26 w24 w41 ∧ ((Run Try.prog (Instr.buildSlice 24 0 #[]) w41 fun v45 w46 => ∃ (A47 : Option Addr) (n48 c49 : Nat), v45 = .slice A47 n48 c49 ∧ SameBut M26 w24 w46 ∧ ((Run Try.prog (Builtin.append_ #[24, 24] 24 #[(.slice A47 n48 c49), (.slice A30 n31 c32)]) w46 fun v50 w51 => ∃ (A52 : Option Addr) (n53 c54 : Nat), v50 = .slice A52 n53 c54 ∧ SameBut M26 w24 w51 ∧ newK w51 (.cells #[(.slice none 0 0), (.slice none 0 0), (.slice none 0 0), (.int .i64 0), (.int .i64 0)] 32) fun g55 w56 => SameBut M26 w24 w56 ∧ stCells (⟨g55, 0, none⟩ : Addr) [(.slice A42 n43 c44), (.slice none 0 0), (.slice A52 n53 c54), (.int .i64 n33), (.int .i64 n34)] 0 w56 fun w57 => J25 ((⟨g55, 0, none⟩ : Addr), ()) w57) ∧ (newK w46 (.cells #[(.slice none 0 0), (.slice none 0 0), (.slice none 0 0), (.int .i64 0), (.int .i64 0)] 32) fun g58 w59 => SameBut M26 w24 w59 ∧ Run Try.prog (Builtin.append_ #[24, 24] 24 #[(.slice A47 n48 c49), (.slice A30 n31 c32)]) w59 fun v60 w61 => ∃ (A62 : Option Addr) (n63 c64 : Nat), v60 = .slice A62 n63 c64 ∧ SameBut M26 w24 w61 ∧ stCells (⟨g58, 0, none⟩ : Addr) [(.slice A42 n43 c44), (.slice none 0 0), (.slice A62 n63 c64), (.int .i64 n33), (.int .i64 n34)] 0 w61 fun w65 => J25 ((⟨g58, 0, none⟩ : Addr), ()) w65) ∧ True)) ∧ (newK w41 (.cells #[(.slice none 0 0), (.slice none 0 0), (.slice none 0 0), (.int .i64 0), (.int .i64 0)] 32) fun g66 w67 => SameBut M26 w24 w67 ∧ Run Try.prog (Instr.buildSlice 24 0 #[]) w67 fun v68 w69 => ∃ (A70 : Option Addr) (n71 c72 : Nat), v68 = .slice A70 n71 c72 ∧ SameBut M26 w24 w69 ∧ Run Try.prog (Builtin.append_ #[24, 24] 24 #[(.slice A70 n71 c72), (.slice A30 n31 c32)]) w69 fun v73 w74 => ∃ (A75 : Option Addr) (n76 c77 : Nat), v73 = .slice A75 n76 c77 ∧ SameBut M26 w24 w74 ∧ stCells (⟨g66, 0, none⟩ : Addr) [(.slice A42 n43 c44), (.slice none 0 0), (.slice A75 n76 c77), (.int .i64 n33), (.int .i64 n34)] 0 w74 fun w78 => J25 ((⟨g66, 0, none⟩ : Addr), ()) w78) ∧ True)) ∧ (Run Try.prog (Instr.buildSlice 24 0 #[]) w36 fun v79 w80 => ∃ (A81 : Option Addr) (n82 c83 : Nat), v79 = .slice A81 n82 c83 ∧ SameBut M26 w24 w80 ∧ ((Run Try.prog (Builtin.append_ #[29, 29] 29 #[(.slice A37 n38 c39), (.slice A27 n28 c29)]) w80 fun v84 w85 => ∃ (A86 : Option Addr) (n87 c88 : Nat), v84 = .slice A86 n87 c88 ∧ SameBut M26 w24 w85 ∧ ((Run Try.prog (Builtin.append_ #[24, 24] 24 #[(.slice A81 n82 c83), (.slice A30 n31 c32)]) w85 fun v89 w90 => ∃ (A91 : Option Addr) (n92 c93 : Nat), v89 = .slice A91 n92 c93 ∧ SameBut M26 w24 w90 ∧ newK w90 (.cells #[(.slice none 0 0), (.slice none 0 0), (.slice none 0 0), (.int .i64 0), (.int .i64 0)] 32) fun g94 w95 => SameBut M26 w24 w95 ∧ stCells (⟨g94, 0, none⟩ : Addr) [(.slice A86 n87 c88), (.slice none 0 0), (.slice A91 n92 c93), (.int .i64 n33), (.int .i64 n34)] 0 w95 fun w96 => J25 ((⟨g94, 0, none⟩ : Addr), ()) w96) ∧ (newK w85 (.cells #[(.slice none 0 0), (.slice none 0 0), (.slice none 0 0), (.int .i64 0), (.int .i64 0)] 32) fun g97 w98 => SameBut M26 w24 w98 ∧ Run Try.prog (Builtin.append_ #[24, 24] 24 #[(.slice A81 n82 c83), (.slice A30 n31 c32)]) w98 fun v99 w100 => ∃ (A101 : Option Addr) (n102 c103 : Nat), v99 = .slice A101 n102 c103 ∧ SameBut M26 w24 w100 ∧ stCells (⟨g97, 0, none⟩ : Addr) [(.slice A86 n87 c88), (.slice none 0 0), (.slice A101 n102 c103), (.int .i64 n33), (.int .i64 n34)] 0 w100 fun w104 => J25 ((⟨g97, 0, none⟩ : Addr), ()) w104) ∧ True)) ∧ (newK w80 (.cells #[(.slice none 0 0), (.slice none 0 0), (.slice none 0 0), (.int .i64 0), (.int .i64 0)] 32) fun g105 w106 => SameBut M26 w24 w106 ∧ Run Try.prog (Builtin.append_ #[29, 29] 29 #[(.slice A37 n38 c39), (.slice A27 n28 c29)]) w106 fun v107 w108 => ∃ (A109 : Option Addr) (n110 c111 : Nat), v107 = .slice A109 n110 c111 ∧ SameBut M26 w24 w108 ∧ Run Try.prog (Builtin.append_ #[24, 24] 24 #[(.slice A81 n82 c83), (.slice A30 n31 c32)]) w108 fun v112 w113 => ∃ (A114 : Option Addr) (n115 c116 : Nat), v112 = .slice A114 n115 c116 ∧ SameBut M26 w24 w113 ∧ stCells (⟨g105, 0, none⟩ : Addr) [(.slice A109 n110 c111), (.slice none 0 0), (.slice A114 n115 c116), (.int .i64 n33), (.int .i64 n34)] 0 w113 fun w117 => J25 ((⟨g105, 0, none⟩ : Addr), ()) w117) ∧ True)) ∧ (newK w36 (.cells #[(.slice none 0 0), (.slice none 0 0), (.slice none 0 0), (.int .i64 0), (.int .i64 0)] 32) fun g118 w119 => SameBut M26 w24 w119 ∧ ((Run Try.prog (Builtin.append_ #[29, 29] 29 #[(.slice A37 n38 c39), (.slice A27 n28 c29)]) w119 fun v120 w121 => ∃ (A122 : Option Addr) (n123 c124 : Nat), v120 = .slice A122 n123 c124 ∧ SameBut M26 w24 w121 ∧ Run Try.prog (Instr.buildSlice 24 0 #[]) w121 fun v125 w126 => ∃ (A127 : Option Addr) (n128 c129 : Nat), v125 = .slice A127 n128 c129 ∧ SameBut M26 w24 w126 ∧ Run Try.prog (Builtin.append_ #[24, 24] 24 #[(.slice A127 n128 c129), (.slice A30 n31 c32)]) w126 fun v130 w131 => ∃ (A132 : Option Addr) (n133 c134 : Nat), v130 = .slice A132 n133 c134 ∧ SameBut M26 w24 w131 ∧ stCells (⟨g118, 0, none⟩ : Addr) [(.slice A122 n123 c124), (.slice none 0 0), (.slice A132 n133 c134), (.int .i64 n33), (.int .i64 n34)] 0 w131 fun w135 => J25 ((⟨g118, 0, none⟩ : Addr), ()) w135) ∧ (Run Try.prog (Instr.buildSlice 24 0 #[]) w119 fun v136 w137 => ∃ (A138 : Option Addr) (n139 c140 : Nat), v136 = .slice A138 n139 c140 ∧ SameBut M26 w24 w137 ∧ Run Try.prog (Builtin.append_ #[29, 29] 29 #[(.slice A37 n38 c39), (.slice A27 n28 c29)]) w137 fun v141 w142 => ∃ (A143 : Option Addr) (n144 c145 : Nat), v141 = .slice A143 n144 c145 ∧ SameBut M26 w24 w142 ∧ Run Try.prog (Builtin.append_ #[24, 24] 24 #[(.slice A138 n139 c140), (.slice A30 n31 c32)]) w142 fun v146 w147 => ∃ (A148 : Option Addr) (n149 c150 : Nat), v146 = .slice A148 n149 c150 ∧ SameBut M26 w24 w147 ∧ stCells (⟨g118, 0, none⟩ : Addr) [(.slice A143 n144 c145), (.slice none 0 0), (.slice A148 n149 c150), (.int .i64 n33), (.int .i64 n34)] 0 w147 fun w151 => J25 ((⟨g118, 0, none⟩ : Addr), ()) w151) ∧ True)) ∧ True)) ∧ (Run Try.prog (Instr.buildSlice 24 0 #[]) w24.drew fun v152 w153 => ∃ (A154 : Option Addr) (n155 c156 : Nat), v152 = .slice A154 n155 c156 ∧ SameBut M26 w24 w153 ∧ ((Run Try.prog (Instr.buildSlice 29 0 #[]) w153 fun v157 w158 => ∃ (A159 : Option Addr) (n160 c161 : Nat), v157 = .slice A159 n160 c161 ∧ SameBut M26 w24 w158 ∧ ((Run Try.prog (Builtin.append_ #[29, 29] 29 #[(.slice A159 n160 c161), (.slice A27 n28 c29)]) w158 fun v162 w163 => ∃ (A164 : Option Addr) (n165 c166 : Nat), v162 = .slice A164 n165 c166 ∧ SameBut M26 w24 w163 ∧ ((Run Try.prog (Builtin.append_ #[24, 24] 24 #[(.slice A154 n155 c156), (.slice A30 n31 c32)]) w163 fun v167 w168 => ∃ (A169 : Option Addr) (n170 c171 : Nat), v167 = .slice A169 n170 c171 ∧ SameBut M26 w24 w168 ∧ newK w168 (.cells #[(.slice none 0 0), (.slice none 0 0), (.slice none 0 0), (.int .i64 0), (.int .i64 0)] 32) fun g172 w173 => SameBut M26 w24 w173 ∧ stCells (⟨g172, 0, none⟩ : Addr) [(.slice A164 n165 c166), (.slice none 0 0), (.slice A169 n170 c171), (.int .i64 n33), (.int .i64 n34)] 0 w173 fun w174 => J25 ((⟨g172, 0, none⟩ : Addr), ()) w174) ∧ (newK w163 (.cells #[(.slice none 0 0), (.slice none 0 0), (.slice none 0 0), (.int .i64 0), (.int .i64 0)] 32) fun g175 w176 => SameBut M26 w24 w176 ∧ Run Try.prog (Builtin.append_ #[24, 24] 24 #[(.slice A154 n155 c156), (.slice A30 n31 c32)]) w176 fun v177 w178 => ∃ (A179 : Option Addr) (n180 c181 : Nat), v177 = .slice A179 n180 c181 ∧ SameBut M26 w24 w178 ∧ stCells (⟨g175, 0, none⟩ : Addr) [(.slice A164 n165 c166), (.slice none 0 0), (.slice A179 n180 c181), (.int .i64 n33), (.int .i64 n34)] 0 w178 fun w182 => J25 ((⟨g175, 0, none⟩ : Addr), ()) w182) ∧ True)) ∧ (newK w158 (.cells #[(.slice none 0 0), (.slice none 0 0), (.slice none 0 0), (.int .i64 0), (.int .i64 0)] 32) fun g183 w184 => SameBut M26 w24 w184 ∧ Run Try.prog (Builtin.append_ #[29, 29] 29 #[(.slice A159 n160 c161), (.slice A27 n28 c29)]) w184 fun v185 w186 => ∃ (A187 : Option Addr) (n188 c189 : Nat), v185 = .slice A187 n188 c189 ∧ SameBut M26 w24 w186 ∧ Run Try.prog (Builtin.append_ #[24, 24] 24 #[(.slice A154 n155 c156), (.slice A30 n31 c32)]) w186 fun v190 w191 => ∃ (A192 : Option Addr) (n193 c194 : Nat), v190 = .slice A192 n193 c194 ∧ SameBut M26 w24 w191 ∧ stCells (⟨g183, 0, none⟩ : Addr) [(.slice A187 n188 c189), (.slice none 0 0), (.slice A192 n193 c194), (.int .i64 n33), (.int .i64 n34)] 0 w191 fun w195 => J25 ((⟨g183, 0, none⟩ : Addr), ()) w195) ∧ True)) ∧ (newK w153 (.cells #[(.slice none 0 0), (.slice none 0 0), (.slice none 0 0), (.int .i64 0), (.int .i64 0)] 32) fun g196 w197 => SameBut M26 w24 w197 ∧ Run Try.prog (Instr.buildSlice 29 0 #[]) w197 fun v198 w199 => ∃ (A200 : Option Addr) (n201 c202 : Nat), v198 = .slice A200 n201 c202 ∧ SameBut M26 w24 w199 ∧ Run Try.prog (Builtin.append_ #[29, 29] 29 #[(.slice A200 n201 c202), (.slice A27 n28 c29)]) w199 fun v203 w204 => ∃ (A205 : Option Addr) (n206 c207 : Nat), v203 = .slice A205 n206 c207 ∧ SameBut M26 w24 w204 ∧ Run Try.prog (Builtin.append_ #[24, 24] 24 #[(.slice A154 n155 c156), (.slice A30 n31 c32)]) w204 fun v208 w209 => ∃ (A210 : Option Addr) (n211 c212 : Nat), v208 = .slice A210 n211 c212 ∧ SameBut M26 w24 w209 ∧ stCells (⟨g196, 0, none⟩ : Addr) [(.slice A205 n206 c207), (.slice none 0 0), (.slice A210 n211 c212), (.int .i64 n33), (.int .i64 n34)] 0 w209 fun w213 => J25 ((⟨g196, 0, none⟩ : Addr), ()) w213) ∧ True)) ∧ (newK w24.drew (.cells #[(.slice none 0 0), (.slice none 0 0), (.slice none 0 0), (.int .i64 0), (.int .i64 0)] 32) fun g214 w215 => SameBut M26 w24 w215 ∧ ((Run Try.prog (Instr.buildSlice 29 0 #[]) w215 fun v216 w217 => ∃ (A218 : Option Addr) (n219 c220 : Nat), v216 = .slice A218 n219 c220 ∧ SameBut M26 w24 w217 ∧ ((Run Try.prog (Builtin.append_ #[29, 29] 29 #[(.slice A218 n219 c220), (.slice A27 n28 c29)]) w217 fun v221 w222 => ∃ (A223 : Option Addr) (n224 c225 : Nat), v221 = .slice A223 n224 c225 ∧ SameBut M26 w24 w222 ∧ Run Try.prog (Instr.buildSlice 24 0 #[]) w222 fun v226 w227 => ∃ (A228 : Option Addr) (n229 c230 : Nat), v226 = .slice A228 n229 c230 ∧ SameBut M26 w24 w227 ∧ Run Try.prog (Builtin.append_ #[24, 24] 24 #[(.slice A228 n229 c230), (.slice A30 n31 c32)]) w227 fun v231 w232 => ∃ (A233 : Option Addr) (n234 c235 : Nat), v231 = .slice A233 n234 c235 ∧ SameBut M26 w24 w232 ∧ stCells (⟨g214, 0, none⟩ : Addr) [(.slice A223 n224 c225), (.slice none 0 0), (.slice A233 n234 c235), (.int .i64 n33), (.int .i64 n34)] 0 w232 fun w236 => J25 ((⟨g214, 0, none⟩ : Addr), ()) w236) ∧ (Run Try.prog (Instr.buildSlice 24 0 #[]) w217 fun v237 w238 => ∃ (A239 : Option Addr) (n240 c241 : Nat), v237 = .slice A239 n240 c241 ∧ SameBut M26 w24 w238 ∧ Run Try.prog (Builtin.append_ #[29, 29] 29 #[(.slice A218 n219 c220), (.slice A27 n28 c29)]) w238 fun v242 w243 => ∃ (A244 : Option Addr) (n245 c246 : Nat), v242 = .slice A244 n245 c246 ∧ SameBut M26 w24 w243 ∧ Run Try.prog (Builtin.append_ #[24, 24] 24 #[(.slice A239 n240 c241), (.slice A30 n31 c32)]) w243 fun v247 w248 => ∃ (A249 : Option Addr) (n250 c251 : Nat), v247 = .slice A249 n250 c251 ∧ SameBut M26 w24 w248 ∧ stCells (⟨g214, 0, none⟩ : Addr) [(.slice A244 n245 c246), (.slice none 0 0), (.slice A249 n250 c251), (.int .i64 n33), (.int .i64 n34)] 0 w248 fun w252 => J25 ((⟨g214, 0, none⟩ : Addr), ()) w252) ∧ True)) ∧ (Run Try.prog (Instr.buildSlice 24 0 #[]) w215 fun v253 w254 => ∃ (A255 : Option Addr) (n256 c257 : Nat), v253 = .slice A255 n256 c257 ∧ SameBut M26 w24 w254 ∧ Run Try.prog (Instr.buildSlice 29 0 #[]) w254 fun v258 w259 => ∃ (A260 : Option Addr) (n261 c262 : Nat), v258 = .slice A260 n261 c262 ∧ SameBut M26 w24 w259 ∧ Run Try.prog (Builtin.append_ #[29, 29] 29 #[(.slice A260 n261 c262), (.slice A27 n28 c29)]) w259 fun v263 w264 => ∃ (A265 : Option Addr) (n266 c267 : Nat), v263 = .slice A265 n266 c267 ∧ SameBut M26 w24 w264 ∧ Run Try.prog (Builtin.append_ #[24, 24] 24 #[(.slice A255 n256 c257), (.slice A30 n31 c32)]) w264 fun v268 w269 => ∃ (A270 : Option Addr) (n271 c272 : Nat), v268 = .slice A270 n271 c272 ∧ SameBut M26 w24 w269 ∧ stCells (⟨g214, 0, none⟩ : Addr) [(.slice A265 n266 c267), (.slice none 0 0), (.slice A270 n271 c272), (.int .i64 n33), (.int .i64 n34)] 0 w269 fun w273 => J25 ((⟨g214, 0, none⟩ : Addr), ()) w273) ∧ True)) ∧ True))) fun z274 w275 => LoopT (σ := Int × Unit) (fun z276 w277 next278 => ∃ (A279 : Option Addr) (n280 : Nat) (c281 : Nat), w277.cell? (((⟨g21, 0, none⟩ : Addr).add 1).add 0) = some (.slice A279 n280 c281) ∧ bcase (decide (z276.1 < ((n280 : Nat) : Int))) ((∃ M282 : Nat → Prop, ∃ (A283 : Option Addr) (n284 : Nat) (c285 : Nat), (¬ M282 ((z274.1.add 1)).block ∧ w277.cell? ((z274.1.add 1).add 0) = some (.slice A283 n284 c285)) ∧ ∃ (A286 : Option Addr) (n287 : Nat) (c288 : Nat), (¬ M282 (((⟨g21, 0, none⟩ : Addr).add 1)).block ∧ w277.cell? (((⟨g21, 0, none⟩ : Addr).add 1).add 0) = some (.slice A286 n287 c288)) ∧ ((0 : Int) ≤ z276.1 ∧ z276.1 < ((n287 : Nat) : Int) ∧ ∃ a289 : Addr, A286 = some a289 ∧ ∃ (n290 : Int), (¬ M282 ((a289.add ((z276.1.toNat) * 3))).block ∧ w277.cell? ((a289.add ((z276.1.toNat) * 3)).add 0) = some (.int .i64 n290)) ∧ ∃ (A291 : Option Addr) (n292 : Nat) (c293 : Nat), (¬ M282 ((a289.add ((z276.1.toNat) * 3))).block ∧ w277.cell? ((a289.add ((z276.1.toNat) * 3)).add 1) = some (.slice A291 n292 c293)) ∧ ∃ (A294 : Option Addr) (n295 : Nat) (c296 : Nat), (¬ M282 ((a289.add ((z276.1.toNat) * 3))).block ∧ w277.cell? ((a289.add ((z276.1.toNat) * 3)).add 2) = some (.slice A294 n295 c296)) ∧ Cll Try.prog 119 #[(.agg #[(.int .i64 n290), (.slice A291 n292 c293), (.slice A294 n295 c296)])] w277.drew fun v297 w298 => (∃ (n299 : Int), True ∧ ∃ (A300 : Option Addr) (n301 : Nat) (c302 : Nat), True ∧ ∃ (A303 : Option Addr) (n304 : Nat) (c305 : Nat), True ∧ v297 = (.agg #[(.int .i64 n299), (.slice A300 n301 c302), (.slice A303 n304 c305)]) ∧ SameBut M282 w277 w298 ∧ Run Try.prog (Instr.buildSlice 30 1 #[(0, (.agg #[(.int .i64 n299), (.slice A300 n301 c302), (.slice A303 n304 c305)]))]) w298 fun v306 w307 => ∃ (A308 : Option Addr) (n309 c310 : Nat), v306 = .slice A308 n309 c310 ∧ SameBut M282 w277 w307 ∧ Run Try.prog (Builtin.append_ #[30, 30] 30 #[(.slice A283 n284 c285), (.slice A308 n309 c310)]) w307 fun v311 w312 => ∃ (A313 : Option Addr) (n314 c315 : Nat), v311 = .slice A313 n314 c315 ∧ SameBut M282 w277 w312 ∧ stCells (z274.1.add 1) [(.slice A313 n314 c315)] 0 w312 fun w316 => next278 ((IntKind.wrap .i64 (z276.1 + 1)), ()) w316)))) (∃ (A317 : Option Addr) (n318 : Nat) (c319 : Nat), w277.cell? (z274.1.add 0) = some (.slice A317 n318 c319) ∧ ∃ (A320 : Option Addr) (n321 : Nat) (c322 : Nat), w277.cell? (z274.1.add 1) = some (.slice A320 n321 c322) ∧ ∃ (A323 : Option Addr) (n324 : Nat) (c325 : Nat), w277.cell? (z274.1.add 2) = some (.slice A323 n324 c325) ∧ ∃ (n326 : Int), w277.cell? (z274.1.add 3) = some (.int .i64 n326) ∧ ∃ (n327 : Int), w277.cell? (z274.1.add 4) = some (.int .i64 n327) ∧ stCells (⟨g23, 0, none⟩ : Addr) [(.slice A317 n318 c319), (.slice A320 n321 c322), (.slice A323 n324 c325), (.int .i64 n326), (.int .i64 n327)] 0 w277 fun w328 => ∃ (A329 : Option Addr) (n330 : Nat) (c331 : Nat), w328.cell? ((⟨g23, 0, none⟩ : Addr).add 0) = some (.slice A329 n330 c331) ∧ ∃ (A332 : Option Addr) (n333 : Nat) (c334 : Nat), w328.cell? ((⟨g23, 0, none⟩ : Addr).add 1) = some (.slice A332 n333 c334) ∧ ∃ (A335 : Option Addr) (n336 : Nat) (c337 : Nat), w328.cell? ((⟨g23, 0, none⟩ : Addr).add 2) = some (.slice A335 n336 c337) ∧ ∃ (n338 : Int), w328.cell? ((⟨g23, 0, none⟩ : Addr).add 3) = some (.int .i64 n338) ∧ ∃ (n339 : Int), w328.cell? ((⟨g23, 0, none⟩ : Addr).add 4) = some (.int .i64 n339) ∧ K (.agg #[(.slice A329 n330 c331), (.slice A332 n333 c334), (.slice A335 n336 c337), (.int .i64 n338), (.int .i64 n339)]) w328)) (0, ()) w275

def spec_l29Copy.ann : Ann := (.seq .l (.cut [(3, .ptr)] .l (.seq (.seq .l (.one (.loop [(4, .int .i64)] (.seq (.seq .l (.two .l .l)) (.seq (.one .l) .l))))) (.seq .l .l))))

theorem spec_l29Copy.vc_eq (A0_0 : Option Addr) (n0_0 : Nat) (c0_0 : Nat) (A0_1 : Option Addr) (n0_1 : Nat) (c0_1 : Nat) (A0_2 : Option Addr) (n0_2 : Nat) (c0_2 : Nat) (x0_3 : Int) (x0_4 : Int) (w : World) (K : Value → World → Prop) : vcF Try.prog Try.f62 spec_l29Copy.ann [(.agg #[(.slice A0_0 n0_0 c0_0), (.slice A0_1 n0_1 c0_1), (.slice A0_2 n0_2 c0_2), (.int .i64 x0_3), (.int .i64 x0_4)])] K w = spec_l29Copy.vc A0_0 n0_0 c0_0 A0_1 n0_1 c0_1 A0_2 n0_2 c0_2 x0_3 x0_4 w K := by kernel_rfl

theorem spec_l29Copy.start {A0_0 : Option Addr} {n0_0 : Nat} {c0_0 : Nat} {A0_1 : Option Addr} {n0_1 : Nat} {c0_1 : Nat} {A0_2 : Option Addr} {n0_2 : Nat} {c0_2 : Nat} {x0_3 : Int} {x0_4 : Int} {w : World} {K : Value → World → Prop} (h : spec_l29Copy.vc A0_0 n0_0 c0_0 A0_1 n0_1 c0_1 A0_2 n0_2 c0_2 x0_3 x0_4 w K) : Cll Try.prog 62 #[(.agg #[(.slice A0_0 n0_0 c0_0), (.slice A0_1 n0_1 c0_1), (.slice A0_2 n0_2 c0_2), (.int .i64 x0_3), (.int .i64 x0_4)])] w K :=
  vcF_sound mixed (fn := Try.f62) (by kernel_rfl) (by kernel_rfl) (an := spec_l29Copy.ann) (args := [(.agg #[(.slice A0_0 n0_0 c0_0), (.slice A0_1 n0_1 c0_1), (.slice A0_2 n0_2 c0_2), (.int .i64 x0_3), (.int .i64 x0_4)])]) (by rw [spec_l29Copy.vc_eq]; exact h)

theorem spec_l29Copy.con {s0 : D.Block} {A0_0 : Option Addr} {c0_0 : Nat} {A0_1 : Option Addr} {c0_1 : Nat} {A0_2 : Option Addr} {c0_2 : Nat} {r : D.Block} {w : World} (hp : M.spec_l29Copy_pre s0) (hr : r = M.spec_l29Copy s0) (R0_0 : Row el76 w A0_0 s0.Code) (hc0_0 : s0.Code.length ≤ c0_0) (R0_1 : RowW 102 el132 el3 w A0_1 s0.Warps) (hc0_1 : s0.Warps.length ≤ c0_1) (R0_2 : Row el3 w A0_2 s0.Memory) (hc0_2 : s0.Memory.length ≤ c0_2) :
    Cll Try.prog 62 #[(.agg #[(.slice A0_0 s0.Code.length c0_0), (.slice A0_1 s0.Warps.length c0_1), (.slice A0_2 s0.Memory.length c0_2), (.int .i64 s0.Waiting), (.int .i64 s0.Phase)])] w (fun v_ w_ => ∃ (A0_ : Option Addr) (c0_ : Nat) (A1_ : Option Addr) (c1_ : Nat) (F1_ : Nat → Prop) (A2_ : Option Addr) (c2_ : Nat), v_ = (.agg #[(.slice A0_ r.Code.length c0_), (.slice A1_ r.Warps.length c1_), (.slice A2_ r.Memory.length c2_), (.int .i64 r.Waiting), (.int .i64 r.Phase)]) ∧ Own el76 w_ w.heap.size A0_ c0_ r.Code ∧ OwnW 102 el132 el3 w_ w.heap.size F1_ A1_ c1_ r.Warps ∧ Own el3 w_ w.heap.size A2_ c2_ r.Memory ∧ Dis (InW A1_ F1_) (InB A2_) ∧ Ext w w_) := by
  have H := wp.spec_l29Copy.math s0 hp
  have hB := Ext.refl w
  refine spec_l29Copy.start ?_
  unfold spec_l29Copy.vc
  unfold wp.spec_l29Copy at H
  refine newBlk (fun g4_ w21 L4 P4 e22 => ?_)
  have O4 := P4
  have L4 := Nat.le_trans hB.size L4
  have hB := ethen hB e22
  refine newBlk (fun g5_ w23 L5 P5 e24 => ?_)
  have N4_5 := O4.ne L5
  have O4 := O4.ext e24
  have O5 := P5
  have L5 := Nat.le_trans hB.size L5
  have hB := ethen hB e24
  obtain ⟨K544, hKK544, H⟩ := joinP_out H
  refine ⟨fun z_ w_ => ∃ (xs25 : List D.Ins) (xs29 : List D.Warp) (xs32 : List Int) (i35 : Int) (i36 : Int) (g32_ : Nat) (A26 : Option Addr) (c27 : Nat) (A30 : Option Addr) (c31 : Nat) (F28 : Nat → Prop) (A33 : Option Addr) (c34 : Nat), z_ = ((⟨g32_, 0, none⟩ : Addr), ()) ∧ K544 (xs25, xs29, xs32, i35, i36, ()) ∧ Ext w w_ ∧ Blk w_ g32_ 32 #[(.slice A26 xs25.length c27), (.slice A30 xs29.length c31), (.slice A33 xs32.length c34), (.int .i64 i35), (.int .i64 i36)] ∧ w.heap.size ≤ g32_ ∧ Own el76 w_ w.heap.size A26 c27 xs25 ∧ OwnW 102 el132 el3 w_ w.heap.size F28 A30 c31 xs29 ∧ Own el3 w_ w.heap.size A33 c34 xs32 ∧ Blk w_ g4_ 32 #[(.slice A0_0 s0.Code.length c0_0), (.slice A0_1 s0.Warps.length c0_1), (.slice A0_2 s0.Memory.length c0_2), (.int .i64 s0.Waiting), (.int .i64 s0.Phase)] ∧ Blk w_ g5_ 32 #[(.slice none 0 0), (.slice none 0 0), (.slice none 0 0), (.int .i64 0), (.int .i64 0)] ∧ g4_ ≠ g32_ ∧ g5_ ≠ g32_ ∧ Dis (InW A30 F28) (InB A33), ?_, ?_⟩
  · refine ⟨(fun _ => False), ?_⟩
    refine ⟨_, _, _, ⟨(fun h_ => h_), (O4.at 0 rfl rfl)⟩, ?_⟩
    refine ⟨_, _, _, ⟨(fun h_ => h_), (O4.at 2 rfl rfl)⟩, ?_⟩
    refine ⟨_, ⟨(fun h_ => h_), (O4.at 3 rfl rfl)⟩, ?_⟩
    refine ⟨_, ⟨(fun h_ => h_), (O4.at 4 rfl rfl)⟩, ?_⟩
    refine And.intro ?_ ?_
    · have H := H.1
      have hS40 := Chg.refl (fun _ => False) w23
      have O4 := O4.ext (Ext.drew _)
      have O5 := O5.ext (Ext.drew _)
      have hB := ethen hB (Ext.drew _)
      have hS40 := hS40.then (Ext.drew _)
      refine buildOwn el76 ([] : List D.Ins) (fun _ => by kernel_rfl) rfl (fun A41 w42 P36 e43 => ?_)
      have N36_4 := P36.apart_old O4.lt
      have N36_5 := P36.apart_old O5.lt
      have O4 := O4.ext e43
      have O5 := O5.ext e43
      have LB36 := (P36.mono hS40.size).low
      have O36 := P36.mono hB.size
      have hB := ethen hB e43
      have hS40 := hS40.then e43
      refine ⟨sameBut_chg hS40, ?_⟩
      refine And.intro ?_ ?_
      · have H := H.1
        obtain ⟨hl48, H⟩ := H
        refine appOwn slt29 slt29.under O36 (R0_0.ext hB) hB.size (by first | rfl | omega | (simp; done) | (simp; omega)) rfl hl48 (fun A44 c45 w46 P36 e47 => ?_)
        have N36_4_ := Apart.app N36_4 e47 O4.lt
        have O4 := O4.app e47 N36_4
        have N36_4 := N36_4_
        have N36_5_ := Apart.app N36_5 e47 O5.lt
        have O5 := O5.app e47 N36_5
        have N36_5 := N36_5_
        have hsz36_ := hS40.size
        have hS40 := hS40.app e47 (fun g h_ => (Or.inl (LB36 g h_)))
        have LB36 := e47.low LB36 hsz36_
        have hB := eapp hB e47 O36
        have O36 := P36
        refine ⟨sameBut_chg hS40, ?_⟩
        refine And.intro ?_ ?_
        · have H := H.1
          refine buildOwn el3 ([] : List Int) (fun _ => by kernel_rfl) rfl (fun A49 w50 P37 e51 => ?_)
          have N37_4 := P37.apart_old O4.lt
          have N37_5 := P37.apart_old O5.lt
          have N36_37 := Own.apart2_new O36 P37 (Nat.le_refl _)
          have O4 := O4.ext e51
          have O5 := O5.ext e51
          have O36 := O36.ext e51
          have LB37 := (P37.mono hS40.size).low
          have O37 := P37.mono hB.size
          have hB := ethen hB e51
          have hS40 := hS40.then e51
          refine ⟨sameBut_chg hS40, ?_⟩
          refine And.intro ?_ ?_
          · have H := H.1
            obtain ⟨hl56, H⟩ := H
            refine appOwn slt24 slt24.under O37 (R0_2.ext hB) hB.size (by first | rfl | omega | (simp; done) | (simp; omega)) rfl hl56 (fun A52 c53 w54 P37 e55 => ?_)
            have N37_4_ := Apart.app N37_4 e55 O4.lt
            have O4 := O4.app e55 N37_4
            have N37_4 := N37_4_
            have N37_5_ := Apart.app N37_5 e55 O5.lt
            have O5 := O5.app e55 N37_5
            have N37_5 := N37_5_
            have N36_37_ := Apart2.app N36_37 e55 O36
            have O36 := O36.app e55 N36_37
            have N36_37 := N36_37_
            have hsz37_ := hS40.size
            have hS40 := hS40.app e55 (fun g h_ => (Or.inl (LB37 g h_)))
            have LB37 := e55.low LB37 hsz37_
            have hB := eapp hB e55 O37
            have O37 := P37
            refine ⟨sameBut_chg hS40, ?_⟩
            refine newBlk (fun g38_ w57 L38 P38 e58 => ?_)
            have N4_38 := O4.ne L38
            have N5_38 := O5.ne L38
            have N36_38 := O36.apart_new L38
            have N37_38 := O37.apart_new L38
            have O4 := O4.ext e58
            have O5 := O5.ext e58
            have O36 := O36.ext e58
            have O37 := O37.ext e58
            have O38 := P38
            have LB38 := Nat.le_trans hS40.size L38
            have L38 := Nat.le_trans hB.size L38
            have hB := ethen hB e58
            have hS40 := hS40.then e58
            refine ⟨sameBut_chg hS40, ?_⟩
            refine stBlk O38 (o := 0) (cs' := #[(.slice A44 (((([] : List D.Ins) ++ s0.Code)).length) c45), (.slice none 0 0), (.slice A52 (((([] : List Int) ++ s0.Memory)).length) c53), (.int .i64 s0.Waiting), (.int .i64 s0.Phase)]) rfl rfl (Nat.le_of_ble_eq_true rfl) rfl (fun w59 P38 e60 => ?_)
            have O4_ := O4.chg e60 N4_38
            have O5_ := O5.chg e60 N5_38
            have O36_ := O36.chg e60 N36_38
            have O37_ := O37.chg e60 N37_38
            have O4 := O4_
            have O5 := O5_
            have O36 := O36_
            have O37 := O37_
            have hB := echg hB e60 L38
            have O38 := P38
            exact ⟨(([] : List D.Ins) ++ s0.Code), [], (([] : List Int) ++ s0.Memory), s0.Waiting, s0.Phase, g38_, A44, c45, none, 0, (fun _ => False), A52, c53, rfl, H, hB, O38, L38, O36, OwnW.nil, O37, O4, O5, N4_38, N5_38, nilW_dis⟩
          · refine And.intro ?_ ?_
            · have H := H.2.1
              refine newBlk (fun g39_ w61 L39 P39 e62 => ?_)
              have N4_39 := O4.ne L39
              have N5_39 := O5.ne L39
              have N36_39 := O36.apart_new L39
              have N37_39 := O37.apart_new L39
              have O4 := O4.ext e62
              have O5 := O5.ext e62
              have O36 := O36.ext e62
              have O37 := O37.ext e62
              have O39 := P39
              have LB39 := Nat.le_trans hS40.size L39
              have L39 := Nat.le_trans hB.size L39
              have hB := ethen hB e62
              have hS40 := hS40.then e62
              refine ⟨sameBut_chg hS40, ?_⟩
              obtain ⟨hl67, H⟩ := H
              refine appOwn slt24 slt24.under O37 (R0_2.ext hB) hB.size (by first | rfl | omega | (simp; done) | (simp; omega)) rfl hl67 (fun A63 c64 w65 P37 e66 => ?_)
              have N37_4_ := Apart.app N37_4 e66 O4.lt
              have O4 := O4.app e66 N37_4
              have N37_4 := N37_4_
              have N37_5_ := Apart.app N37_5 e66 O5.lt
              have O5 := O5.app e66 N37_5
              have N37_5 := N37_5_
              have N36_37_ := Apart2.app N36_37 e66 O36
              have O36 := O36.app e66 N36_37
              have N36_37 := N36_37_
              have N37_39_ := Apart.app N37_39 e66 O39.lt
              have O39 := O39.app e66 N37_39
              have N37_39 := N37_39_
              have hsz37_ := hS40.size
              have hS40 := hS40.app e66 (fun g h_ => (Or.inl (LB37 g h_)))
              have LB37 := e66.low LB37 hsz37_
              have hB := eapp hB e66 O37
              have O37 := P37
              refine ⟨sameBut_chg hS40, ?_⟩
              refine stBlk O39 (o := 0) (cs' := #[(.slice A44 (((([] : List D.Ins) ++ s0.Code)).length) c45), (.slice none 0 0), (.slice A63 (((([] : List Int) ++ s0.Memory)).length) c64), (.int .i64 s0.Waiting), (.int .i64 s0.Phase)]) rfl rfl (Nat.le_of_ble_eq_true rfl) rfl (fun w68 P39 e69 => ?_)
              have O4_ := O4.chg e69 N4_39
              have O5_ := O5.chg e69 N5_39
              have O36_ := O36.chg e69 N36_39
              have O37_ := O37.chg e69 N37_39
              have O4 := O4_
              have O5 := O5_
              have O36 := O36_
              have O37 := O37_
              have hB := echg hB e69 L39
              have O39 := P39
              exact ⟨(([] : List D.Ins) ++ s0.Code), [], (([] : List Int) ++ s0.Memory), s0.Waiting, s0.Phase, g39_, A44, c45, none, 0, (fun _ => False), A63, c64, rfl, H, hB, O39, L39, O36, OwnW.nil, O37, O4, O5, N4_39, N5_39, nilW_dis⟩
            · exact trivial
        · refine And.intro ?_ ?_
          · have H := H.2.1
            refine newBlk (fun g40_ w70 L40 P40 e71 => ?_)
            have N4_40 := O4.ne L40
            have N5_40 := O5.ne L40
            have N36_40 := O36.apart_new L40
            have O4 := O4.ext e71
            have O5 := O5.ext e71
            have O36 := O36.ext e71
            have O40 := P40
            have LB40 := Nat.le_trans hS40.size L40
            have L40 := Nat.le_trans hB.size L40
            have hB := ethen hB e71
            have hS40 := hS40.then e71
            refine ⟨sameBut_chg hS40, ?_⟩
            refine buildOwn el3 ([] : List Int) (fun _ => by kernel_rfl) rfl (fun A72 w73 P41 e74 => ?_)
            have N41_4 := P41.apart_old O4.lt
            have N41_5 := P41.apart_old O5.lt
            have N36_41 := Own.apart2_new O36 P41 (Nat.le_refl _)
            have N41_40 := P41.apart_old O40.lt
            have O4 := O4.ext e74
            have O5 := O5.ext e74
            have O36 := O36.ext e74
            have O40 := O40.ext e74
            have LB41 := (P41.mono hS40.size).low
            have O41 := P41.mono hB.size
            have hB := ethen hB e74
            have hS40 := hS40.then e74
            refine ⟨sameBut_chg hS40, ?_⟩
            obtain ⟨hl79, H⟩ := H
            refine appOwn slt24 slt24.under O41 (R0_2.ext hB) hB.size (by first | rfl | omega | (simp; done) | (simp; omega)) rfl hl79 (fun A75 c76 w77 P41 e78 => ?_)
            have N41_4_ := Apart.app N41_4 e78 O4.lt
            have O4 := O4.app e78 N41_4
            have N41_4 := N41_4_
            have N41_5_ := Apart.app N41_5 e78 O5.lt
            have O5 := O5.app e78 N41_5
            have N41_5 := N41_5_
            have N36_41_ := Apart2.app N36_41 e78 O36
            have O36 := O36.app e78 N36_41
            have N36_41 := N36_41_
            have N41_40_ := Apart.app N41_40 e78 O40.lt
            have O40 := O40.app e78 N41_40
            have N41_40 := N41_40_
            have hsz41_ := hS40.size
            have hS40 := hS40.app e78 (fun g h_ => (Or.inl (LB41 g h_)))
            have LB41 := e78.low LB41 hsz41_
            have hB := eapp hB e78 O41
            have O41 := P41
            refine ⟨sameBut_chg hS40, ?_⟩
            refine stBlk O40 (o := 0) (cs' := #[(.slice A44 (((([] : List D.Ins) ++ s0.Code)).length) c45), (.slice none 0 0), (.slice A75 (((([] : List Int) ++ s0.Memory)).length) c76), (.int .i64 s0.Waiting), (.int .i64 s0.Phase)]) rfl rfl (Nat.le_of_ble_eq_true rfl) rfl (fun w80 P40 e81 => ?_)
            have O4_ := O4.chg e81 N4_40
            have O5_ := O5.chg e81 N5_40
            have O36_ := O36.chg e81 N36_40
            have O41_ := O41.chg e81 N41_40
            have O4 := O4_
            have O5 := O5_
            have O36 := O36_
            have O41 := O41_
            have hB := echg hB e81 L40
            have O40 := P40
            exact ⟨(([] : List D.Ins) ++ s0.Code), [], (([] : List Int) ++ s0.Memory), s0.Waiting, s0.Phase, g40_, A44, c45, none, 0, (fun _ => False), A75, c76, rfl, H, hB, O40, L40, O36, OwnW.nil, O41, O4, O5, N4_40, N5_40, nilW_dis⟩
          · exact trivial
      · refine And.intro ?_ ?_
        · have H := H.2.1
          refine buildOwn el3 ([] : List Int) (fun _ => by kernel_rfl) rfl (fun A82 w83 P42 e84 => ?_)
          have N42_4 := P42.apart_old O4.lt
          have N42_5 := P42.apart_old O5.lt
          have N36_42 := Own.apart2_new O36 P42 (Nat.le_refl _)
          have O4 := O4.ext e84
          have O5 := O5.ext e84
          have O36 := O36.ext e84
          have LB42 := (P42.mono hS40.size).low
          have O42 := P42.mono hB.size
          have hB := ethen hB e84
          have hS40 := hS40.then e84
          refine ⟨sameBut_chg hS40, ?_⟩
          refine And.intro ?_ ?_
          · have H := H.1
            obtain ⟨hl89, H⟩ := H
            refine appOwn slt29 slt29.under O36 (R0_0.ext hB) hB.size (by first | rfl | omega | (simp; done) | (simp; omega)) rfl hl89 (fun A85 c86 w87 P36 e88 => ?_)
            have N36_4_ := Apart.app N36_4 e88 O4.lt
            have O4 := O4.app e88 N36_4
            have N36_4 := N36_4_
            have N36_5_ := Apart.app N36_5 e88 O5.lt
            have O5 := O5.app e88 N36_5
            have N36_5 := N36_5_
            have N42_36_ := Apart2.app (N36_42).symm e88 O42
            have O42 := O42.app e88 (N36_42).symm
            have N42_36 := N42_36_
            have hsz36_ := hS40.size
            have hS40 := hS40.app e88 (fun g h_ => (Or.inl (LB36 g h_)))
            have LB36 := e88.low LB36 hsz36_
            have hB := eapp hB e88 O36
            have O36 := P36
            refine ⟨sameBut_chg hS40, ?_⟩
            refine And.intro ?_ ?_
            · have H := H.1
              obtain ⟨hl94, H⟩ := H
              refine appOwn slt24 slt24.under O42 (R0_2.ext hB) hB.size (by first | rfl | omega | (simp; done) | (simp; omega)) rfl hl94 (fun A90 c91 w92 P42 e93 => ?_)
              have N42_4_ := Apart.app N42_4 e93 O4.lt
              have O4 := O4.app e93 N42_4
              have N42_4 := N42_4_
              have N42_5_ := Apart.app N42_5 e93 O5.lt
              have O5 := O5.app e93 N42_5
              have N42_5 := N42_5_
              have N36_42_ := Apart2.app (N42_36).symm e93 O36
              have O36 := O36.app e93 (N42_36).symm
              have N36_42 := N36_42_
              have hsz42_ := hS40.size
              have hS40 := hS40.app e93 (fun g h_ => (Or.inl (LB42 g h_)))
              have LB42 := e93.low LB42 hsz42_
              have hB := eapp hB e93 O42
              have O42 := P42
              refine ⟨sameBut_chg hS40, ?_⟩
              refine newBlk (fun g43_ w95 L43 P43 e96 => ?_)
              have N4_43 := O4.ne L43
              have N5_43 := O5.ne L43
              have N36_43 := O36.apart_new L43
              have N42_43 := O42.apart_new L43
              have O4 := O4.ext e96
              have O5 := O5.ext e96
              have O36 := O36.ext e96
              have O42 := O42.ext e96
              have O43 := P43
              have LB43 := Nat.le_trans hS40.size L43
              have L43 := Nat.le_trans hB.size L43
              have hB := ethen hB e96
              have hS40 := hS40.then e96
              refine ⟨sameBut_chg hS40, ?_⟩
              refine stBlk O43 (o := 0) (cs' := #[(.slice A85 (((([] : List D.Ins) ++ s0.Code)).length) c86), (.slice none 0 0), (.slice A90 (((([] : List Int) ++ s0.Memory)).length) c91), (.int .i64 s0.Waiting), (.int .i64 s0.Phase)]) rfl rfl (Nat.le_of_ble_eq_true rfl) rfl (fun w97 P43 e98 => ?_)
              have O4_ := O4.chg e98 N4_43
              have O5_ := O5.chg e98 N5_43
              have O36_ := O36.chg e98 N36_43
              have O42_ := O42.chg e98 N42_43
              have O4 := O4_
              have O5 := O5_
              have O36 := O36_
              have O42 := O42_
              have hB := echg hB e98 L43
              have O43 := P43
              exact ⟨(([] : List D.Ins) ++ s0.Code), [], (([] : List Int) ++ s0.Memory), s0.Waiting, s0.Phase, g43_, A85, c86, none, 0, (fun _ => False), A90, c91, rfl, H, hB, O43, L43, O36, OwnW.nil, O42, O4, O5, N4_43, N5_43, nilW_dis⟩
            · refine And.intro ?_ ?_
              · have H := H.2.1
                refine newBlk (fun g44_ w99 L44 P44 e100 => ?_)
                have N4_44 := O4.ne L44
                have N5_44 := O5.ne L44
                have N36_44 := O36.apart_new L44
                have N42_44 := O42.apart_new L44
                have O4 := O4.ext e100
                have O5 := O5.ext e100
                have O36 := O36.ext e100
                have O42 := O42.ext e100
                have O44 := P44
                have LB44 := Nat.le_trans hS40.size L44
                have L44 := Nat.le_trans hB.size L44
                have hB := ethen hB e100
                have hS40 := hS40.then e100
                refine ⟨sameBut_chg hS40, ?_⟩
                obtain ⟨hl105, H⟩ := H
                refine appOwn slt24 slt24.under O42 (R0_2.ext hB) hB.size (by first | rfl | omega | (simp; done) | (simp; omega)) rfl hl105 (fun A101 c102 w103 P42 e104 => ?_)
                have N42_4_ := Apart.app N42_4 e104 O4.lt
                have O4 := O4.app e104 N42_4
                have N42_4 := N42_4_
                have N42_5_ := Apart.app N42_5 e104 O5.lt
                have O5 := O5.app e104 N42_5
                have N42_5 := N42_5_
                have N36_42_ := Apart2.app (N42_36).symm e104 O36
                have O36 := O36.app e104 (N42_36).symm
                have N36_42 := N36_42_
                have N42_44_ := Apart.app N42_44 e104 O44.lt
                have O44 := O44.app e104 N42_44
                have N42_44 := N42_44_
                have hsz42_ := hS40.size
                have hS40 := hS40.app e104 (fun g h_ => (Or.inl (LB42 g h_)))
                have LB42 := e104.low LB42 hsz42_
                have hB := eapp hB e104 O42
                have O42 := P42
                refine ⟨sameBut_chg hS40, ?_⟩
                refine stBlk O44 (o := 0) (cs' := #[(.slice A85 (((([] : List D.Ins) ++ s0.Code)).length) c86), (.slice none 0 0), (.slice A101 (((([] : List Int) ++ s0.Memory)).length) c102), (.int .i64 s0.Waiting), (.int .i64 s0.Phase)]) rfl rfl (Nat.le_of_ble_eq_true rfl) rfl (fun w106 P44 e107 => ?_)
                have O4_ := O4.chg e107 N4_44
                have O5_ := O5.chg e107 N5_44
                have O36_ := O36.chg e107 N36_44
                have O42_ := O42.chg e107 N42_44
                have O4 := O4_
                have O5 := O5_
                have O36 := O36_
                have O42 := O42_
                have hB := echg hB e107 L44
                have O44 := P44
                exact ⟨(([] : List D.Ins) ++ s0.Code), [], (([] : List Int) ++ s0.Memory), s0.Waiting, s0.Phase, g44_, A85, c86, none, 0, (fun _ => False), A101, c102, rfl, H, hB, O44, L44, O36, OwnW.nil, O42, O4, O5, N4_44, N5_44, nilW_dis⟩
              · exact trivial
          · refine And.intro ?_ ?_
            · have H := H.2.1
              refine newBlk (fun g45_ w108 L45 P45 e109 => ?_)
              have N4_45 := O4.ne L45
              have N5_45 := O5.ne L45
              have N36_45 := O36.apart_new L45
              have N42_45 := O42.apart_new L45
              have O4 := O4.ext e109
              have O5 := O5.ext e109
              have O36 := O36.ext e109
              have O42 := O42.ext e109
              have O45 := P45
              have LB45 := Nat.le_trans hS40.size L45
              have L45 := Nat.le_trans hB.size L45
              have hB := ethen hB e109
              have hS40 := hS40.then e109
              refine ⟨sameBut_chg hS40, ?_⟩
              obtain ⟨hl114, H⟩ := H
              refine appOwn slt29 slt29.under O36 (R0_0.ext hB) hB.size (by first | rfl | omega | (simp; done) | (simp; omega)) rfl hl114 (fun A110 c111 w112 P36 e113 => ?_)
              have N36_4_ := Apart.app N36_4 e113 O4.lt
              have O4 := O4.app e113 N36_4
              have N36_4 := N36_4_
              have N36_5_ := Apart.app N36_5 e113 O5.lt
              have O5 := O5.app e113 N36_5
              have N36_5 := N36_5_
              have N42_36_ := Apart2.app (N36_42).symm e113 O42
              have O42 := O42.app e113 (N36_42).symm
              have N42_36 := N42_36_
              have N36_45_ := Apart.app N36_45 e113 O45.lt
              have O45 := O45.app e113 N36_45
              have N36_45 := N36_45_
              have hsz36_ := hS40.size
              have hS40 := hS40.app e113 (fun g h_ => (Or.inl (LB36 g h_)))
              have LB36 := e113.low LB36 hsz36_
              have hB := eapp hB e113 O36
              have O36 := P36
              refine ⟨sameBut_chg hS40, ?_⟩
              obtain ⟨hl119, H⟩ := H
              refine appOwn slt24 slt24.under O42 (R0_2.ext hB) hB.size (by first | rfl | omega | (simp; done) | (simp; omega)) rfl hl119 (fun A115 c116 w117 P42 e118 => ?_)
              have N42_4_ := Apart.app N42_4 e118 O4.lt
              have O4 := O4.app e118 N42_4
              have N42_4 := N42_4_
              have N42_5_ := Apart.app N42_5 e118 O5.lt
              have O5 := O5.app e118 N42_5
              have N42_5 := N42_5_
              have N36_42_ := Apart2.app (N42_36).symm e118 O36
              have O36 := O36.app e118 (N42_36).symm
              have N36_42 := N36_42_
              have N42_45_ := Apart.app N42_45 e118 O45.lt
              have O45 := O45.app e118 N42_45
              have N42_45 := N42_45_
              have hsz42_ := hS40.size
              have hS40 := hS40.app e118 (fun g h_ => (Or.inl (LB42 g h_)))
              have LB42 := e118.low LB42 hsz42_
              have hB := eapp hB e118 O42
              have O42 := P42
              refine ⟨sameBut_chg hS40, ?_⟩
              refine stBlk O45 (o := 0) (cs' := #[(.slice A110 (((([] : List D.Ins) ++ s0.Code)).length) c111), (.slice none 0 0), (.slice A115 (((([] : List Int) ++ s0.Memory)).length) c116), (.int .i64 s0.Waiting), (.int .i64 s0.Phase)]) rfl rfl (Nat.le_of_ble_eq_true rfl) rfl (fun w120 P45 e121 => ?_)
              have O4_ := O4.chg e121 N4_45
              have O5_ := O5.chg e121 N5_45
              have O36_ := O36.chg e121 N36_45
              have O42_ := O42.chg e121 N42_45
              have O4 := O4_
              have O5 := O5_
              have O36 := O36_
              have O42 := O42_
              have hB := echg hB e121 L45
              have O45 := P45
              exact ⟨(([] : List D.Ins) ++ s0.Code), [], (([] : List Int) ++ s0.Memory), s0.Waiting, s0.Phase, g45_, A110, c111, none, 0, (fun _ => False), A115, c116, rfl, H, hB, O45, L45, O36, OwnW.nil, O42, O4, O5, N4_45, N5_45, nilW_dis⟩
            · exact trivial
        · refine And.intro ?_ ?_
          · have H := H.2.2.1
            refine newBlk (fun g46_ w122 L46 P46 e123 => ?_)
            have N4_46 := O4.ne L46
            have N5_46 := O5.ne L46
            have N36_46 := O36.apart_new L46
            have O4 := O4.ext e123
            have O5 := O5.ext e123
            have O36 := O36.ext e123
            have O46 := P46
            have LB46 := Nat.le_trans hS40.size L46
            have L46 := Nat.le_trans hB.size L46
            have hB := ethen hB e123
            have hS40 := hS40.then e123
            refine ⟨sameBut_chg hS40, ?_⟩
            refine And.intro ?_ ?_
            · have H := H.1
              obtain ⟨hl128, H⟩ := H
              refine appOwn slt29 slt29.under O36 (R0_0.ext hB) hB.size (by first | rfl | omega | (simp; done) | (simp; omega)) rfl hl128 (fun A124 c125 w126 P36 e127 => ?_)
              have N36_4_ := Apart.app N36_4 e127 O4.lt
              have O4 := O4.app e127 N36_4
              have N36_4 := N36_4_
              have N36_5_ := Apart.app N36_5 e127 O5.lt
              have O5 := O5.app e127 N36_5
              have N36_5 := N36_5_
              have N36_46_ := Apart.app N36_46 e127 O46.lt
              have O46 := O46.app e127 N36_46
              have N36_46 := N36_46_
              have hsz36_ := hS40.size
              have hS40 := hS40.app e127 (fun g h_ => (Or.inl (LB36 g h_)))
              have LB36 := e127.low LB36 hsz36_
              have hB := eapp hB e127 O36
              have O36 := P36
              refine ⟨sameBut_chg hS40, ?_⟩
              refine buildOwn el3 ([] : List Int) (fun _ => by kernel_rfl) rfl (fun A129 w130 P47 e131 => ?_)
              have N47_4 := P47.apart_old O4.lt
              have N47_5 := P47.apart_old O5.lt
              have N36_47 := Own.apart2_new O36 P47 (Nat.le_refl _)
              have N47_46 := P47.apart_old O46.lt
              have O4 := O4.ext e131
              have O5 := O5.ext e131
              have O36 := O36.ext e131
              have O46 := O46.ext e131
              have LB47 := (P47.mono hS40.size).low
              have O47 := P47.mono hB.size
              have hB := ethen hB e131
              have hS40 := hS40.then e131
              refine ⟨sameBut_chg hS40, ?_⟩
              obtain ⟨hl136, H⟩ := H
              refine appOwn slt24 slt24.under O47 (R0_2.ext hB) hB.size (by first | rfl | omega | (simp; done) | (simp; omega)) rfl hl136 (fun A132 c133 w134 P47 e135 => ?_)
              have N47_4_ := Apart.app N47_4 e135 O4.lt
              have O4 := O4.app e135 N47_4
              have N47_4 := N47_4_
              have N47_5_ := Apart.app N47_5 e135 O5.lt
              have O5 := O5.app e135 N47_5
              have N47_5 := N47_5_
              have N36_47_ := Apart2.app N36_47 e135 O36
              have O36 := O36.app e135 N36_47
              have N36_47 := N36_47_
              have N47_46_ := Apart.app N47_46 e135 O46.lt
              have O46 := O46.app e135 N47_46
              have N47_46 := N47_46_
              have hsz47_ := hS40.size
              have hS40 := hS40.app e135 (fun g h_ => (Or.inl (LB47 g h_)))
              have LB47 := e135.low LB47 hsz47_
              have hB := eapp hB e135 O47
              have O47 := P47
              refine ⟨sameBut_chg hS40, ?_⟩
              refine stBlk O46 (o := 0) (cs' := #[(.slice A124 (((([] : List D.Ins) ++ s0.Code)).length) c125), (.slice none 0 0), (.slice A132 (((([] : List Int) ++ s0.Memory)).length) c133), (.int .i64 s0.Waiting), (.int .i64 s0.Phase)]) rfl rfl (Nat.le_of_ble_eq_true rfl) rfl (fun w137 P46 e138 => ?_)
              have O4_ := O4.chg e138 N4_46
              have O5_ := O5.chg e138 N5_46
              have O36_ := O36.chg e138 N36_46
              have O47_ := O47.chg e138 N47_46
              have O4 := O4_
              have O5 := O5_
              have O36 := O36_
              have O47 := O47_
              have hB := echg hB e138 L46
              have O46 := P46
              exact ⟨(([] : List D.Ins) ++ s0.Code), [], (([] : List Int) ++ s0.Memory), s0.Waiting, s0.Phase, g46_, A124, c125, none, 0, (fun _ => False), A132, c133, rfl, H, hB, O46, L46, O36, OwnW.nil, O47, O4, O5, N4_46, N5_46, nilW_dis⟩
            · refine And.intro ?_ ?_
              · have H := H.2.1
                refine buildOwn el3 ([] : List Int) (fun _ => by kernel_rfl) rfl (fun A139 w140 P48 e141 => ?_)
                have N48_4 := P48.apart_old O4.lt
                have N48_5 := P48.apart_old O5.lt
                have N36_48 := Own.apart2_new O36 P48 (Nat.le_refl _)
                have N48_46 := P48.apart_old O46.lt
                have O4 := O4.ext e141
                have O5 := O5.ext e141
                have O36 := O36.ext e141
                have O46 := O46.ext e141
                have LB48 := (P48.mono hS40.size).low
                have O48 := P48.mono hB.size
                have hB := ethen hB e141
                have hS40 := hS40.then e141
                refine ⟨sameBut_chg hS40, ?_⟩
                obtain ⟨hl146, H⟩ := H
                refine appOwn slt29 slt29.under O36 (R0_0.ext hB) hB.size (by first | rfl | omega | (simp; done) | (simp; omega)) rfl hl146 (fun A142 c143 w144 P36 e145 => ?_)
                have N36_4_ := Apart.app N36_4 e145 O4.lt
                have O4 := O4.app e145 N36_4
                have N36_4 := N36_4_
                have N36_5_ := Apart.app N36_5 e145 O5.lt
                have O5 := O5.app e145 N36_5
                have N36_5 := N36_5_
                have N36_46_ := Apart.app N36_46 e145 O46.lt
                have O46 := O46.app e145 N36_46
                have N36_46 := N36_46_
                have N48_36_ := Apart2.app (N36_48).symm e145 O48
                have O48 := O48.app e145 (N36_48).symm
                have N48_36 := N48_36_
                have hsz36_ := hS40.size
                have hS40 := hS40.app e145 (fun g h_ => (Or.inl (LB36 g h_)))
                have LB36 := e145.low LB36 hsz36_
                have hB := eapp hB e145 O36
                have O36 := P36
                refine ⟨sameBut_chg hS40, ?_⟩
                obtain ⟨hl151, H⟩ := H
                refine appOwn slt24 slt24.under O48 (R0_2.ext hB) hB.size (by first | rfl | omega | (simp; done) | (simp; omega)) rfl hl151 (fun A147 c148 w149 P48 e150 => ?_)
                have N48_4_ := Apart.app N48_4 e150 O4.lt
                have O4 := O4.app e150 N48_4
                have N48_4 := N48_4_
                have N48_5_ := Apart.app N48_5 e150 O5.lt
                have O5 := O5.app e150 N48_5
                have N48_5 := N48_5_
                have N36_48_ := Apart2.app (N48_36).symm e150 O36
                have O36 := O36.app e150 (N48_36).symm
                have N36_48 := N36_48_
                have N48_46_ := Apart.app N48_46 e150 O46.lt
                have O46 := O46.app e150 N48_46
                have N48_46 := N48_46_
                have hsz48_ := hS40.size
                have hS40 := hS40.app e150 (fun g h_ => (Or.inl (LB48 g h_)))
                have LB48 := e150.low LB48 hsz48_
                have hB := eapp hB e150 O48
                have O48 := P48
                refine ⟨sameBut_chg hS40, ?_⟩
                refine stBlk O46 (o := 0) (cs' := #[(.slice A142 (((([] : List D.Ins) ++ s0.Code)).length) c143), (.slice none 0 0), (.slice A147 (((([] : List Int) ++ s0.Memory)).length) c148), (.int .i64 s0.Waiting), (.int .i64 s0.Phase)]) rfl rfl (Nat.le_of_ble_eq_true rfl) rfl (fun w152 P46 e153 => ?_)
                have O4_ := O4.chg e153 N4_46
                have O5_ := O5.chg e153 N5_46
                have O36_ := O36.chg e153 N36_46
                have O48_ := O48.chg e153 N48_46
                have O4 := O4_
                have O5 := O5_
                have O36 := O36_
                have O48 := O48_
                have hB := echg hB e153 L46
                have O46 := P46
                exact ⟨(([] : List D.Ins) ++ s0.Code), [], (([] : List Int) ++ s0.Memory), s0.Waiting, s0.Phase, g46_, A142, c143, none, 0, (fun _ => False), A147, c148, rfl, H, hB, O46, L46, O36, OwnW.nil, O48, O4, O5, N4_46, N5_46, nilW_dis⟩
              · exact trivial
          · exact trivial
    · refine And.intro ?_ ?_
      · have H := H.2.1
        have hS40 := Chg.refl (fun _ => False) w23
        have O4 := O4.ext (Ext.drew _)
        have O5 := O5.ext (Ext.drew _)
        have hB := ethen hB (Ext.drew _)
        have hS40 := hS40.then (Ext.drew _)
        refine buildOwn el3 ([] : List Int) (fun _ => by kernel_rfl) rfl (fun A154 w155 P49 e156 => ?_)
        have N49_4 := P49.apart_old O4.lt
        have N49_5 := P49.apart_old O5.lt
        have O4 := O4.ext e156
        have O5 := O5.ext e156
        have LB49 := (P49.mono hS40.size).low
        have O49 := P49.mono hB.size
        have hB := ethen hB e156
        have hS40 := hS40.then e156
        refine ⟨sameBut_chg hS40, ?_⟩
        refine And.intro ?_ ?_
        · have H := H.1
          refine buildOwn el76 ([] : List D.Ins) (fun _ => by kernel_rfl) rfl (fun A157 w158 P50 e159 => ?_)
          have N50_4 := P50.apart_old O4.lt
          have N50_5 := P50.apart_old O5.lt
          have N49_50 := Own.apart2_new O49 P50 (Nat.le_refl _)
          have O4 := O4.ext e159
          have O5 := O5.ext e159
          have O49 := O49.ext e159
          have LB50 := (P50.mono hS40.size).low
          have O50 := P50.mono hB.size
          have hB := ethen hB e159
          have hS40 := hS40.then e159
          refine ⟨sameBut_chg hS40, ?_⟩
          refine And.intro ?_ ?_
          · have H := H.1
            obtain ⟨hl164, H⟩ := H
            refine appOwn slt29 slt29.under O50 (R0_0.ext hB) hB.size (by first | rfl | omega | (simp; done) | (simp; omega)) rfl hl164 (fun A160 c161 w162 P50 e163 => ?_)
            have N50_4_ := Apart.app N50_4 e163 O4.lt
            have O4 := O4.app e163 N50_4
            have N50_4 := N50_4_
            have N50_5_ := Apart.app N50_5 e163 O5.lt
            have O5 := O5.app e163 N50_5
            have N50_5 := N50_5_
            have N49_50_ := Apart2.app N49_50 e163 O49
            have O49 := O49.app e163 N49_50
            have N49_50 := N49_50_
            have hsz50_ := hS40.size
            have hS40 := hS40.app e163 (fun g h_ => (Or.inl (LB50 g h_)))
            have LB50 := e163.low LB50 hsz50_
            have hB := eapp hB e163 O50
            have O50 := P50
            refine ⟨sameBut_chg hS40, ?_⟩
            refine And.intro ?_ ?_
            · have H := H.1
              obtain ⟨hl169, H⟩ := H
              refine appOwn slt24 slt24.under O49 (R0_2.ext hB) hB.size (by first | rfl | omega | (simp; done) | (simp; omega)) rfl hl169 (fun A165 c166 w167 P49 e168 => ?_)
              have N49_4_ := Apart.app N49_4 e168 O4.lt
              have O4 := O4.app e168 N49_4
              have N49_4 := N49_4_
              have N49_5_ := Apart.app N49_5 e168 O5.lt
              have O5 := O5.app e168 N49_5
              have N49_5 := N49_5_
              have N50_49_ := Apart2.app (N49_50).symm e168 O50
              have O50 := O50.app e168 (N49_50).symm
              have N50_49 := N50_49_
              have hsz49_ := hS40.size
              have hS40 := hS40.app e168 (fun g h_ => (Or.inl (LB49 g h_)))
              have LB49 := e168.low LB49 hsz49_
              have hB := eapp hB e168 O49
              have O49 := P49
              refine ⟨sameBut_chg hS40, ?_⟩
              refine newBlk (fun g51_ w170 L51 P51 e171 => ?_)
              have N4_51 := O4.ne L51
              have N5_51 := O5.ne L51
              have N49_51 := O49.apart_new L51
              have N50_51 := O50.apart_new L51
              have O4 := O4.ext e171
              have O5 := O5.ext e171
              have O49 := O49.ext e171
              have O50 := O50.ext e171
              have O51 := P51
              have LB51 := Nat.le_trans hS40.size L51
              have L51 := Nat.le_trans hB.size L51
              have hB := ethen hB e171
              have hS40 := hS40.then e171
              refine ⟨sameBut_chg hS40, ?_⟩
              refine stBlk O51 (o := 0) (cs' := #[(.slice A160 (((([] : List D.Ins) ++ s0.Code)).length) c161), (.slice none 0 0), (.slice A165 (((([] : List Int) ++ s0.Memory)).length) c166), (.int .i64 s0.Waiting), (.int .i64 s0.Phase)]) rfl rfl (Nat.le_of_ble_eq_true rfl) rfl (fun w172 P51 e173 => ?_)
              have O4_ := O4.chg e173 N4_51
              have O5_ := O5.chg e173 N5_51
              have O49_ := O49.chg e173 N49_51
              have O50_ := O50.chg e173 N50_51
              have O4 := O4_
              have O5 := O5_
              have O49 := O49_
              have O50 := O50_
              have hB := echg hB e173 L51
              have O51 := P51
              exact ⟨(([] : List D.Ins) ++ s0.Code), [], (([] : List Int) ++ s0.Memory), s0.Waiting, s0.Phase, g51_, A160, c161, none, 0, (fun _ => False), A165, c166, rfl, H, hB, O51, L51, O50, OwnW.nil, O49, O4, O5, N4_51, N5_51, nilW_dis⟩
            · refine And.intro ?_ ?_
              · have H := H.2.1
                refine newBlk (fun g52_ w174 L52 P52 e175 => ?_)
                have N4_52 := O4.ne L52
                have N5_52 := O5.ne L52
                have N49_52 := O49.apart_new L52
                have N50_52 := O50.apart_new L52
                have O4 := O4.ext e175
                have O5 := O5.ext e175
                have O49 := O49.ext e175
                have O50 := O50.ext e175
                have O52 := P52
                have LB52 := Nat.le_trans hS40.size L52
                have L52 := Nat.le_trans hB.size L52
                have hB := ethen hB e175
                have hS40 := hS40.then e175
                refine ⟨sameBut_chg hS40, ?_⟩
                obtain ⟨hl180, H⟩ := H
                refine appOwn slt24 slt24.under O49 (R0_2.ext hB) hB.size (by first | rfl | omega | (simp; done) | (simp; omega)) rfl hl180 (fun A176 c177 w178 P49 e179 => ?_)
                have N49_4_ := Apart.app N49_4 e179 O4.lt
                have O4 := O4.app e179 N49_4
                have N49_4 := N49_4_
                have N49_5_ := Apart.app N49_5 e179 O5.lt
                have O5 := O5.app e179 N49_5
                have N49_5 := N49_5_
                have N50_49_ := Apart2.app (N49_50).symm e179 O50
                have O50 := O50.app e179 (N49_50).symm
                have N50_49 := N50_49_
                have N49_52_ := Apart.app N49_52 e179 O52.lt
                have O52 := O52.app e179 N49_52
                have N49_52 := N49_52_
                have hsz49_ := hS40.size
                have hS40 := hS40.app e179 (fun g h_ => (Or.inl (LB49 g h_)))
                have LB49 := e179.low LB49 hsz49_
                have hB := eapp hB e179 O49
                have O49 := P49
                refine ⟨sameBut_chg hS40, ?_⟩
                refine stBlk O52 (o := 0) (cs' := #[(.slice A160 (((([] : List D.Ins) ++ s0.Code)).length) c161), (.slice none 0 0), (.slice A176 (((([] : List Int) ++ s0.Memory)).length) c177), (.int .i64 s0.Waiting), (.int .i64 s0.Phase)]) rfl rfl (Nat.le_of_ble_eq_true rfl) rfl (fun w181 P52 e182 => ?_)
                have O4_ := O4.chg e182 N4_52
                have O5_ := O5.chg e182 N5_52
                have O49_ := O49.chg e182 N49_52
                have O50_ := O50.chg e182 N50_52
                have O4 := O4_
                have O5 := O5_
                have O49 := O49_
                have O50 := O50_
                have hB := echg hB e182 L52
                have O52 := P52
                exact ⟨(([] : List D.Ins) ++ s0.Code), [], (([] : List Int) ++ s0.Memory), s0.Waiting, s0.Phase, g52_, A160, c161, none, 0, (fun _ => False), A176, c177, rfl, H, hB, O52, L52, O50, OwnW.nil, O49, O4, O5, N4_52, N5_52, nilW_dis⟩
              · exact trivial
          · refine And.intro ?_ ?_
            · have H := H.2.1
              refine newBlk (fun g53_ w183 L53 P53 e184 => ?_)
              have N4_53 := O4.ne L53
              have N5_53 := O5.ne L53
              have N49_53 := O49.apart_new L53
              have N50_53 := O50.apart_new L53
              have O4 := O4.ext e184
              have O5 := O5.ext e184
              have O49 := O49.ext e184
              have O50 := O50.ext e184
              have O53 := P53
              have LB53 := Nat.le_trans hS40.size L53
              have L53 := Nat.le_trans hB.size L53
              have hB := ethen hB e184
              have hS40 := hS40.then e184
              refine ⟨sameBut_chg hS40, ?_⟩
              obtain ⟨hl189, H⟩ := H
              refine appOwn slt29 slt29.under O50 (R0_0.ext hB) hB.size (by first | rfl | omega | (simp; done) | (simp; omega)) rfl hl189 (fun A185 c186 w187 P50 e188 => ?_)
              have N50_4_ := Apart.app N50_4 e188 O4.lt
              have O4 := O4.app e188 N50_4
              have N50_4 := N50_4_
              have N50_5_ := Apart.app N50_5 e188 O5.lt
              have O5 := O5.app e188 N50_5
              have N50_5 := N50_5_
              have N49_50_ := Apart2.app N49_50 e188 O49
              have O49 := O49.app e188 N49_50
              have N49_50 := N49_50_
              have N50_53_ := Apart.app N50_53 e188 O53.lt
              have O53 := O53.app e188 N50_53
              have N50_53 := N50_53_
              have hsz50_ := hS40.size
              have hS40 := hS40.app e188 (fun g h_ => (Or.inl (LB50 g h_)))
              have LB50 := e188.low LB50 hsz50_
              have hB := eapp hB e188 O50
              have O50 := P50
              refine ⟨sameBut_chg hS40, ?_⟩
              obtain ⟨hl194, H⟩ := H
              refine appOwn slt24 slt24.under O49 (R0_2.ext hB) hB.size (by first | rfl | omega | (simp; done) | (simp; omega)) rfl hl194 (fun A190 c191 w192 P49 e193 => ?_)
              have N49_4_ := Apart.app N49_4 e193 O4.lt
              have O4 := O4.app e193 N49_4
              have N49_4 := N49_4_
              have N49_5_ := Apart.app N49_5 e193 O5.lt
              have O5 := O5.app e193 N49_5
              have N49_5 := N49_5_
              have N50_49_ := Apart2.app (N49_50).symm e193 O50
              have O50 := O50.app e193 (N49_50).symm
              have N50_49 := N50_49_
              have N49_53_ := Apart.app N49_53 e193 O53.lt
              have O53 := O53.app e193 N49_53
              have N49_53 := N49_53_
              have hsz49_ := hS40.size
              have hS40 := hS40.app e193 (fun g h_ => (Or.inl (LB49 g h_)))
              have LB49 := e193.low LB49 hsz49_
              have hB := eapp hB e193 O49
              have O49 := P49
              refine ⟨sameBut_chg hS40, ?_⟩
              refine stBlk O53 (o := 0) (cs' := #[(.slice A185 (((([] : List D.Ins) ++ s0.Code)).length) c186), (.slice none 0 0), (.slice A190 (((([] : List Int) ++ s0.Memory)).length) c191), (.int .i64 s0.Waiting), (.int .i64 s0.Phase)]) rfl rfl (Nat.le_of_ble_eq_true rfl) rfl (fun w195 P53 e196 => ?_)
              have O4_ := O4.chg e196 N4_53
              have O5_ := O5.chg e196 N5_53
              have O49_ := O49.chg e196 N49_53
              have O50_ := O50.chg e196 N50_53
              have O4 := O4_
              have O5 := O5_
              have O49 := O49_
              have O50 := O50_
              have hB := echg hB e196 L53
              have O53 := P53
              exact ⟨(([] : List D.Ins) ++ s0.Code), [], (([] : List Int) ++ s0.Memory), s0.Waiting, s0.Phase, g53_, A185, c186, none, 0, (fun _ => False), A190, c191, rfl, H, hB, O53, L53, O50, OwnW.nil, O49, O4, O5, N4_53, N5_53, nilW_dis⟩
            · exact trivial
        · refine And.intro ?_ ?_
          · have H := H.2.1
            refine newBlk (fun g54_ w197 L54 P54 e198 => ?_)
            have N4_54 := O4.ne L54
            have N5_54 := O5.ne L54
            have N49_54 := O49.apart_new L54
            have O4 := O4.ext e198
            have O5 := O5.ext e198
            have O49 := O49.ext e198
            have O54 := P54
            have LB54 := Nat.le_trans hS40.size L54
            have L54 := Nat.le_trans hB.size L54
            have hB := ethen hB e198
            have hS40 := hS40.then e198
            refine ⟨sameBut_chg hS40, ?_⟩
            refine buildOwn el76 ([] : List D.Ins) (fun _ => by kernel_rfl) rfl (fun A199 w200 P55 e201 => ?_)
            have N55_4 := P55.apart_old O4.lt
            have N55_5 := P55.apart_old O5.lt
            have N49_55 := Own.apart2_new O49 P55 (Nat.le_refl _)
            have N55_54 := P55.apart_old O54.lt
            have O4 := O4.ext e201
            have O5 := O5.ext e201
            have O49 := O49.ext e201
            have O54 := O54.ext e201
            have LB55 := (P55.mono hS40.size).low
            have O55 := P55.mono hB.size
            have hB := ethen hB e201
            have hS40 := hS40.then e201
            refine ⟨sameBut_chg hS40, ?_⟩
            obtain ⟨hl206, H⟩ := H
            refine appOwn slt29 slt29.under O55 (R0_0.ext hB) hB.size (by first | rfl | omega | (simp; done) | (simp; omega)) rfl hl206 (fun A202 c203 w204 P55 e205 => ?_)
            have N55_4_ := Apart.app N55_4 e205 O4.lt
            have O4 := O4.app e205 N55_4
            have N55_4 := N55_4_
            have N55_5_ := Apart.app N55_5 e205 O5.lt
            have O5 := O5.app e205 N55_5
            have N55_5 := N55_5_
            have N49_55_ := Apart2.app N49_55 e205 O49
            have O49 := O49.app e205 N49_55
            have N49_55 := N49_55_
            have N55_54_ := Apart.app N55_54 e205 O54.lt
            have O54 := O54.app e205 N55_54
            have N55_54 := N55_54_
            have hsz55_ := hS40.size
            have hS40 := hS40.app e205 (fun g h_ => (Or.inl (LB55 g h_)))
            have LB55 := e205.low LB55 hsz55_
            have hB := eapp hB e205 O55
            have O55 := P55
            refine ⟨sameBut_chg hS40, ?_⟩
            obtain ⟨hl211, H⟩ := H
            refine appOwn slt24 slt24.under O49 (R0_2.ext hB) hB.size (by first | rfl | omega | (simp; done) | (simp; omega)) rfl hl211 (fun A207 c208 w209 P49 e210 => ?_)
            have N49_4_ := Apart.app N49_4 e210 O4.lt
            have O4 := O4.app e210 N49_4
            have N49_4 := N49_4_
            have N49_5_ := Apart.app N49_5 e210 O5.lt
            have O5 := O5.app e210 N49_5
            have N49_5 := N49_5_
            have N49_54_ := Apart.app N49_54 e210 O54.lt
            have O54 := O54.app e210 N49_54
            have N49_54 := N49_54_
            have N55_49_ := Apart2.app (N49_55).symm e210 O55
            have O55 := O55.app e210 (N49_55).symm
            have N55_49 := N55_49_
            have hsz49_ := hS40.size
            have hS40 := hS40.app e210 (fun g h_ => (Or.inl (LB49 g h_)))
            have LB49 := e210.low LB49 hsz49_
            have hB := eapp hB e210 O49
            have O49 := P49
            refine ⟨sameBut_chg hS40, ?_⟩
            refine stBlk O54 (o := 0) (cs' := #[(.slice A202 (((([] : List D.Ins) ++ s0.Code)).length) c203), (.slice none 0 0), (.slice A207 (((([] : List Int) ++ s0.Memory)).length) c208), (.int .i64 s0.Waiting), (.int .i64 s0.Phase)]) rfl rfl (Nat.le_of_ble_eq_true rfl) rfl (fun w212 P54 e213 => ?_)
            have O4_ := O4.chg e213 N4_54
            have O5_ := O5.chg e213 N5_54
            have O49_ := O49.chg e213 N49_54
            have O55_ := O55.chg e213 N55_54
            have O4 := O4_
            have O5 := O5_
            have O49 := O49_
            have O55 := O55_
            have hB := echg hB e213 L54
            have O54 := P54
            exact ⟨(([] : List D.Ins) ++ s0.Code), [], (([] : List Int) ++ s0.Memory), s0.Waiting, s0.Phase, g54_, A202, c203, none, 0, (fun _ => False), A207, c208, rfl, H, hB, O54, L54, O55, OwnW.nil, O49, O4, O5, N4_54, N5_54, nilW_dis⟩
          · exact trivial
      · refine And.intro ?_ ?_
        · have H := H.2.2.1
          have hS40 := Chg.refl (fun _ => False) w23
          have O4 := O4.ext (Ext.drew _)
          have O5 := O5.ext (Ext.drew _)
          have hB := ethen hB (Ext.drew _)
          have hS40 := hS40.then (Ext.drew _)
          refine newBlk (fun g56_ w214 L56 P56 e215 => ?_)
          have N4_56 := O4.ne L56
          have N5_56 := O5.ne L56
          have O4 := O4.ext e215
          have O5 := O5.ext e215
          have O56 := P56
          have LB56 := Nat.le_trans hS40.size L56
          have L56 := Nat.le_trans hB.size L56
          have hB := ethen hB e215
          have hS40 := hS40.then e215
          refine ⟨sameBut_chg hS40, ?_⟩
          refine And.intro ?_ ?_
          · have H := H.1
            refine buildOwn el76 ([] : List D.Ins) (fun _ => by kernel_rfl) rfl (fun A216 w217 P57 e218 => ?_)
            have N57_4 := P57.apart_old O4.lt
            have N57_5 := P57.apart_old O5.lt
            have N57_56 := P57.apart_old O56.lt
            have O4 := O4.ext e218
            have O5 := O5.ext e218
            have O56 := O56.ext e218
            have LB57 := (P57.mono hS40.size).low
            have O57 := P57.mono hB.size
            have hB := ethen hB e218
            have hS40 := hS40.then e218
            refine ⟨sameBut_chg hS40, ?_⟩
            refine And.intro ?_ ?_
            · have H := H.1
              obtain ⟨hl223, H⟩ := H
              refine appOwn slt29 slt29.under O57 (R0_0.ext hB) hB.size (by first | rfl | omega | (simp; done) | (simp; omega)) rfl hl223 (fun A219 c220 w221 P57 e222 => ?_)
              have N57_4_ := Apart.app N57_4 e222 O4.lt
              have O4 := O4.app e222 N57_4
              have N57_4 := N57_4_
              have N57_5_ := Apart.app N57_5 e222 O5.lt
              have O5 := O5.app e222 N57_5
              have N57_5 := N57_5_
              have N57_56_ := Apart.app N57_56 e222 O56.lt
              have O56 := O56.app e222 N57_56
              have N57_56 := N57_56_
              have hsz57_ := hS40.size
              have hS40 := hS40.app e222 (fun g h_ => (Or.inl (LB57 g h_)))
              have LB57 := e222.low LB57 hsz57_
              have hB := eapp hB e222 O57
              have O57 := P57
              refine ⟨sameBut_chg hS40, ?_⟩
              refine buildOwn el3 ([] : List Int) (fun _ => by kernel_rfl) rfl (fun A224 w225 P58 e226 => ?_)
              have N58_4 := P58.apart_old O4.lt
              have N58_5 := P58.apart_old O5.lt
              have N58_56 := P58.apart_old O56.lt
              have N57_58 := Own.apart2_new O57 P58 (Nat.le_refl _)
              have O4 := O4.ext e226
              have O5 := O5.ext e226
              have O56 := O56.ext e226
              have O57 := O57.ext e226
              have LB58 := (P58.mono hS40.size).low
              have O58 := P58.mono hB.size
              have hB := ethen hB e226
              have hS40 := hS40.then e226
              refine ⟨sameBut_chg hS40, ?_⟩
              obtain ⟨hl231, H⟩ := H
              refine appOwn slt24 slt24.under O58 (R0_2.ext hB) hB.size (by first | rfl | omega | (simp; done) | (simp; omega)) rfl hl231 (fun A227 c228 w229 P58 e230 => ?_)
              have N58_4_ := Apart.app N58_4 e230 O4.lt
              have O4 := O4.app e230 N58_4
              have N58_4 := N58_4_
              have N58_5_ := Apart.app N58_5 e230 O5.lt
              have O5 := O5.app e230 N58_5
              have N58_5 := N58_5_
              have N58_56_ := Apart.app N58_56 e230 O56.lt
              have O56 := O56.app e230 N58_56
              have N58_56 := N58_56_
              have N57_58_ := Apart2.app N57_58 e230 O57
              have O57 := O57.app e230 N57_58
              have N57_58 := N57_58_
              have hsz58_ := hS40.size
              have hS40 := hS40.app e230 (fun g h_ => (Or.inl (LB58 g h_)))
              have LB58 := e230.low LB58 hsz58_
              have hB := eapp hB e230 O58
              have O58 := P58
              refine ⟨sameBut_chg hS40, ?_⟩
              refine stBlk O56 (o := 0) (cs' := #[(.slice A219 (((([] : List D.Ins) ++ s0.Code)).length) c220), (.slice none 0 0), (.slice A227 (((([] : List Int) ++ s0.Memory)).length) c228), (.int .i64 s0.Waiting), (.int .i64 s0.Phase)]) rfl rfl (Nat.le_of_ble_eq_true rfl) rfl (fun w232 P56 e233 => ?_)
              have O4_ := O4.chg e233 N4_56
              have O5_ := O5.chg e233 N5_56
              have O57_ := O57.chg e233 N57_56
              have O58_ := O58.chg e233 N58_56
              have O4 := O4_
              have O5 := O5_
              have O57 := O57_
              have O58 := O58_
              have hB := echg hB e233 L56
              have O56 := P56
              exact ⟨(([] : List D.Ins) ++ s0.Code), [], (([] : List Int) ++ s0.Memory), s0.Waiting, s0.Phase, g56_, A219, c220, none, 0, (fun _ => False), A227, c228, rfl, H, hB, O56, L56, O57, OwnW.nil, O58, O4, O5, N4_56, N5_56, nilW_dis⟩
            · refine And.intro ?_ ?_
              · have H := H.2.1
                refine buildOwn el3 ([] : List Int) (fun _ => by kernel_rfl) rfl (fun A234 w235 P59 e236 => ?_)
                have N59_4 := P59.apart_old O4.lt
                have N59_5 := P59.apart_old O5.lt
                have N59_56 := P59.apart_old O56.lt
                have N57_59 := Own.apart2_new O57 P59 (Nat.le_refl _)
                have O4 := O4.ext e236
                have O5 := O5.ext e236
                have O56 := O56.ext e236
                have O57 := O57.ext e236
                have LB59 := (P59.mono hS40.size).low
                have O59 := P59.mono hB.size
                have hB := ethen hB e236
                have hS40 := hS40.then e236
                refine ⟨sameBut_chg hS40, ?_⟩
                obtain ⟨hl241, H⟩ := H
                refine appOwn slt29 slt29.under O57 (R0_0.ext hB) hB.size (by first | rfl | omega | (simp; done) | (simp; omega)) rfl hl241 (fun A237 c238 w239 P57 e240 => ?_)
                have N57_4_ := Apart.app N57_4 e240 O4.lt
                have O4 := O4.app e240 N57_4
                have N57_4 := N57_4_
                have N57_5_ := Apart.app N57_5 e240 O5.lt
                have O5 := O5.app e240 N57_5
                have N57_5 := N57_5_
                have N57_56_ := Apart.app N57_56 e240 O56.lt
                have O56 := O56.app e240 N57_56
                have N57_56 := N57_56_
                have N59_57_ := Apart2.app (N57_59).symm e240 O59
                have O59 := O59.app e240 (N57_59).symm
                have N59_57 := N59_57_
                have hsz57_ := hS40.size
                have hS40 := hS40.app e240 (fun g h_ => (Or.inl (LB57 g h_)))
                have LB57 := e240.low LB57 hsz57_
                have hB := eapp hB e240 O57
                have O57 := P57
                refine ⟨sameBut_chg hS40, ?_⟩
                obtain ⟨hl246, H⟩ := H
                refine appOwn slt24 slt24.under O59 (R0_2.ext hB) hB.size (by first | rfl | omega | (simp; done) | (simp; omega)) rfl hl246 (fun A242 c243 w244 P59 e245 => ?_)
                have N59_4_ := Apart.app N59_4 e245 O4.lt
                have O4 := O4.app e245 N59_4
                have N59_4 := N59_4_
                have N59_5_ := Apart.app N59_5 e245 O5.lt
                have O5 := O5.app e245 N59_5
                have N59_5 := N59_5_
                have N59_56_ := Apart.app N59_56 e245 O56.lt
                have O56 := O56.app e245 N59_56
                have N59_56 := N59_56_
                have N57_59_ := Apart2.app (N59_57).symm e245 O57
                have O57 := O57.app e245 (N59_57).symm
                have N57_59 := N57_59_
                have hsz59_ := hS40.size
                have hS40 := hS40.app e245 (fun g h_ => (Or.inl (LB59 g h_)))
                have LB59 := e245.low LB59 hsz59_
                have hB := eapp hB e245 O59
                have O59 := P59
                refine ⟨sameBut_chg hS40, ?_⟩
                refine stBlk O56 (o := 0) (cs' := #[(.slice A237 (((([] : List D.Ins) ++ s0.Code)).length) c238), (.slice none 0 0), (.slice A242 (((([] : List Int) ++ s0.Memory)).length) c243), (.int .i64 s0.Waiting), (.int .i64 s0.Phase)]) rfl rfl (Nat.le_of_ble_eq_true rfl) rfl (fun w247 P56 e248 => ?_)
                have O4_ := O4.chg e248 N4_56
                have O5_ := O5.chg e248 N5_56
                have O57_ := O57.chg e248 N57_56
                have O59_ := O59.chg e248 N59_56
                have O4 := O4_
                have O5 := O5_
                have O57 := O57_
                have O59 := O59_
                have hB := echg hB e248 L56
                have O56 := P56
                exact ⟨(([] : List D.Ins) ++ s0.Code), [], (([] : List Int) ++ s0.Memory), s0.Waiting, s0.Phase, g56_, A237, c238, none, 0, (fun _ => False), A242, c243, rfl, H, hB, O56, L56, O57, OwnW.nil, O59, O4, O5, N4_56, N5_56, nilW_dis⟩
              · exact trivial
          · refine And.intro ?_ ?_
            · have H := H.2.1
              refine buildOwn el3 ([] : List Int) (fun _ => by kernel_rfl) rfl (fun A249 w250 P60 e251 => ?_)
              have N60_4 := P60.apart_old O4.lt
              have N60_5 := P60.apart_old O5.lt
              have N60_56 := P60.apart_old O56.lt
              have O4 := O4.ext e251
              have O5 := O5.ext e251
              have O56 := O56.ext e251
              have LB60 := (P60.mono hS40.size).low
              have O60 := P60.mono hB.size
              have hB := ethen hB e251
              have hS40 := hS40.then e251
              refine ⟨sameBut_chg hS40, ?_⟩
              refine buildOwn el76 ([] : List D.Ins) (fun _ => by kernel_rfl) rfl (fun A252 w253 P61 e254 => ?_)
              have N61_4 := P61.apart_old O4.lt
              have N61_5 := P61.apart_old O5.lt
              have N61_56 := P61.apart_old O56.lt
              have N60_61 := Own.apart2_new O60 P61 (Nat.le_refl _)
              have O4 := O4.ext e254
              have O5 := O5.ext e254
              have O56 := O56.ext e254
              have O60 := O60.ext e254
              have LB61 := (P61.mono hS40.size).low
              have O61 := P61.mono hB.size
              have hB := ethen hB e254
              have hS40 := hS40.then e254
              refine ⟨sameBut_chg hS40, ?_⟩
              obtain ⟨hl259, H⟩ := H
              refine appOwn slt29 slt29.under O61 (R0_0.ext hB) hB.size (by first | rfl | omega | (simp; done) | (simp; omega)) rfl hl259 (fun A255 c256 w257 P61 e258 => ?_)
              have N61_4_ := Apart.app N61_4 e258 O4.lt
              have O4 := O4.app e258 N61_4
              have N61_4 := N61_4_
              have N61_5_ := Apart.app N61_5 e258 O5.lt
              have O5 := O5.app e258 N61_5
              have N61_5 := N61_5_
              have N61_56_ := Apart.app N61_56 e258 O56.lt
              have O56 := O56.app e258 N61_56
              have N61_56 := N61_56_
              have N60_61_ := Apart2.app N60_61 e258 O60
              have O60 := O60.app e258 N60_61
              have N60_61 := N60_61_
              have hsz61_ := hS40.size
              have hS40 := hS40.app e258 (fun g h_ => (Or.inl (LB61 g h_)))
              have LB61 := e258.low LB61 hsz61_
              have hB := eapp hB e258 O61
              have O61 := P61
              refine ⟨sameBut_chg hS40, ?_⟩
              obtain ⟨hl264, H⟩ := H
              refine appOwn slt24 slt24.under O60 (R0_2.ext hB) hB.size (by first | rfl | omega | (simp; done) | (simp; omega)) rfl hl264 (fun A260 c261 w262 P60 e263 => ?_)
              have N60_4_ := Apart.app N60_4 e263 O4.lt
              have O4 := O4.app e263 N60_4
              have N60_4 := N60_4_
              have N60_5_ := Apart.app N60_5 e263 O5.lt
              have O5 := O5.app e263 N60_5
              have N60_5 := N60_5_
              have N60_56_ := Apart.app N60_56 e263 O56.lt
              have O56 := O56.app e263 N60_56
              have N60_56 := N60_56_
              have N61_60_ := Apart2.app (N60_61).symm e263 O61
              have O61 := O61.app e263 (N60_61).symm
              have N61_60 := N61_60_
              have hsz60_ := hS40.size
              have hS40 := hS40.app e263 (fun g h_ => (Or.inl (LB60 g h_)))
              have LB60 := e263.low LB60 hsz60_
              have hB := eapp hB e263 O60
              have O60 := P60
              refine ⟨sameBut_chg hS40, ?_⟩
              refine stBlk O56 (o := 0) (cs' := #[(.slice A255 (((([] : List D.Ins) ++ s0.Code)).length) c256), (.slice none 0 0), (.slice A260 (((([] : List Int) ++ s0.Memory)).length) c261), (.int .i64 s0.Waiting), (.int .i64 s0.Phase)]) rfl rfl (Nat.le_of_ble_eq_true rfl) rfl (fun w265 P56 e266 => ?_)
              have O4_ := O4.chg e266 N4_56
              have O5_ := O5.chg e266 N5_56
              have O60_ := O60.chg e266 N60_56
              have O61_ := O61.chg e266 N61_56
              have O4 := O4_
              have O5 := O5_
              have O60 := O60_
              have O61 := O61_
              have hB := echg hB e266 L56
              have O56 := P56
              exact ⟨(([] : List D.Ins) ++ s0.Code), [], (([] : List Int) ++ s0.Memory), s0.Waiting, s0.Phase, g56_, A255, c256, none, 0, (fun _ => False), A260, c261, rfl, H, hB, O56, L56, O61, OwnW.nil, O60, O4, O5, N4_56, N5_56, nilW_dis⟩
            · exact trivial
        · exact trivial
  · rintro _ w38 ⟨xs25, xs29, xs32, i35, i36, g32_, A26, c27, A30, c31, F28, A33, c34, rfl, H, hB, O32, L32, O33, O34, O35, O4, O5, N4_32, N5_32, N34_35⟩
    have H := hKK544 _ H
    dsimp only at H ⊢
    obtain ⟨J450, ⟨m541, hJ540⟩, hS451⟩ := H
    refine ⟨fun m_ z_ w_ => ∃ (i442 : Int) (xs444 : List D.Warp) (i447 : Int) (i448 : Int) (A445 : Option Addr) (c446 : Nat) (F443 : Nat → Prop), z_ = (i442, ()) ∧ J450 m_ (i442, xs444, i447, i448, ()) ∧ Ext w w_ ∧ Blk w_ g32_ 32 #[(.slice A26 xs25.length c27), (.slice A445 xs444.length c446), (.slice A33 xs32.length c34), (.int .i64 i447), (.int .i64 i448)] ∧ OwnW 102 el132 el3 w_ w.heap.size F443 A445 c446 xs444 ∧ Blk w_ g4_ 32 #[(.slice A0_0 s0.Code.length c0_0), (.slice A0_1 s0.Warps.length c0_1), (.slice A0_2 s0.Memory.length c0_2), (.int .i64 s0.Waiting), (.int .i64 s0.Phase)] ∧ Blk w_ g5_ 32 #[(.slice none 0 0), (.slice none 0 0), (.slice none 0 0), (.int .i64 0), (.int .i64 0)] ∧ Own el76 w_ w.heap.size A26 c27 xs25 ∧ Own el3 w_ w.heap.size A33 c34 xs32 ∧ Dis (InW A445 F443) (InB A33), ⟨m541, 0, xs29, i35, i36, A30, c31, F28, rfl, hJ540, hB, O32, O34, O4, O5, O33, O35, N34_35⟩, ?_⟩
    rintro m449 _ w453 ⟨i442, xs444, i447, i448, A445, c446, F443, rfl, hJ542, hB, O32, O82, O4, O5, O33, O35, N82_35⟩
    have H := hS451 m449 _ hJ542
    clear hS451 hJ542
    dsimp only at H ⊢
    refine ⟨_, _, _, (O4.at 1 rfl rfl), ?_⟩
    refine bcase_mk (fun hc538 => ?_) (fun hc538 => ?_)
    · have H := (bcase_iff.1 H).1 hc538
      refine ⟨(InB A445), ?_⟩
      refine ⟨_, _, _, ⟨(notM1 (fun h_ => (OwnW.dis_blk O82 O32 (by decide) (by decide) (by decide)) (Or.inl h_)) (by first | rfl | (simp only [blk_add]))), (O32.at 1 rfl rfl)⟩, ?_⟩
      refine ⟨_, _, _, ⟨(notM1 (fun h_ => (OwnW.dis_blk O82 O4 (by decide) (by decide) (by decide)) (Or.inl h_)) (by first | rfl | (simp only [blk_add]))), (O4.at 1 rfl rfl)⟩, ?_⟩
      obtain ⟨⟨h0_496, h1_497⟩, H⟩ := H
      obtain ⟨a494, ha495, A501, c502, A503, c504, f498, f499, f500, R505, hle507, R506, hle508⟩ := RowW.at R0_1 h0_496 h1_497
      refine ⟨h0_496, h1_497, a494, ha495, ?_⟩
      refine ⟨_, ⟨(notM1 (fun h_ => absurd (R0_1.old (ne_ix h0_496 h1_497) _ ⟨_, ha495, rfl⟩) (Nat.not_lt.2 (O82.lowW _ (Or.inl h_)))) (by first | rfl | (simp only [blk_add]))), (Ext.cell hB f498)⟩, ?_⟩
      refine ⟨_, _, _, ⟨(notM1 (fun h_ => absurd (R0_1.old (ne_ix h0_496 h1_497) _ ⟨_, ha495, rfl⟩) (Nat.not_lt.2 (O82.lowW _ (Or.inl h_)))) (by first | rfl | (simp only [blk_add]))), (Ext.cell hB f499)⟩, ?_⟩
      refine ⟨_, _, _, ⟨(notM1 (fun h_ => absurd (R0_1.old (ne_ix h0_496 h1_497) _ ⟨_, ha495, rfl⟩) (Nat.not_lt.2 (O82.lowW _ (Or.inl h_)))) (by first | rfl | (simp only [blk_add]))), (Ext.cell hB f500)⟩, ?_⟩
      have hS454 := Chg.refl (InB A445) w453
      have O4 := O4.ext (Ext.drew _)
      have O5 := O5.ext (Ext.drew _)
      have O32 := O32.ext (Ext.drew _)
      have O33 := O33.ext (Ext.drew _)
      have O35 := O35.ext (Ext.drew _)
      have O82 := O82.ext (Ext.drew _)
      have hB := ethen hB (Ext.drew _)
      have hS454 := hS454.then (Ext.drew _)
      obtain ⟨hp511, H⟩ := H
      obtain ⟨r509, hr510⟩ : ∃ r_, r_ = M.spec_l12Copy (rd s0.Warps i442) := ⟨_, rfl⟩
      have H := H r509 hr510
      refine (cllArgs (by first | (simp only [List.length_set]; done) | (simp; done)) (spec_l12Copy.con hp511 hr510 (R505.ext hB) hle507 (R506.ext hB) hle508)).mono ?_
      rintro _ w512 ⟨A514, c515, A516, c517, rfl, P90, P91, e513⟩
      have N90_4 := P90.apart_old O4.lt
      have N90_5 := P90.apart_old O5.lt
      have N90_32 := P90.apart_old O32.lt
      have N33_90 := Own.apart2_new O33 P90 (Nat.le_refl _)
      have N35_90 := Own.apart2_new O35 P90 (Nat.le_refl _)
      have N82_90 := O82.dis_new P90 (Nat.le_refl _)
      have N91_4 := P91.apart_old O4.lt
      have N91_5 := P91.apart_old O5.lt
      have N91_32 := P91.apart_old O32.lt
      have N33_91 := Own.apart2_new O33 P91 (Nat.le_refl _)
      have N35_91 := Own.apart2_new O35 P91 (Nat.le_refl _)
      have N82_91 := O82.dis_new P91 (Nat.le_refl _)
      have O4 := O4.ext e513
      have O5 := O5.ext e513
      have O32 := O32.ext e513
      have O33 := O33.ext e513
      have O35 := O35.ext e513
      have O82 := O82.ext e513
      have LB90 := (P90.mono hS454.size).low
      have LB91 := (P91.mono hS454.size).low
      have O90 := P90.mono hB.size
      have O91 := P91.mono hB.size
      have hB := ethen hB e513
      have hS454 := hS454.then e513
      refine ⟨r509.Number, trivial, ?_⟩
      refine ⟨A514, r509.Frames.length, c515, trivial, ?_⟩
      refine ⟨A516, r509.Regs.length, c517, trivial, ?_⟩
      refine ⟨rfl, ?_⟩
      refine ⟨sameBut_chg hS454, ?_⟩
      refine buildOwn (elH 102) ([⟨r509, A514, c515, A516, c517⟩] : List HW) (fun _ => by kernel_rfl) rfl (fun A518 w519 P92 e520 => ?_)
      have Q92 : OwnW 102 el132 el3 _ _ _ _ _ _ := OwnW.one (P92.mono hB.size) (O90.ext e520) (O91.ext e520)
      have N92_35 : Dis (InW A518 (fun g => InB A514 g ∨ InB A516 g)) (InB A33) := fun g h_ hx_ => h_.elim (fun h_ => (Own.apart2_new O35 P92 (Nat.le_refl _)).inb g hx_ h_) (fun h_ => h_.elim (fun h_ => ((N35_90).symm).inb g h_ hx_) (fun h_ => ((N35_91).symm).inb g h_ hx_))
      have N92_82 : Dis (InW A518 (fun g => InB A514 g ∨ InB A516 g)) (InW A445 F443) := fun g h_ hx_ => h_.elim (fun h_ => O82.dis_new P92 (Nat.le_refl _) g hx_ h_) (fun h_ => h_.elim (fun h_ => N82_90 g hx_ h_) (fun h_ => N82_91 g hx_ h_))
      have O4 := O4.ext e520
      have O5 := O5.ext e520
      have O32 := O32.ext e520
      have O33 := O33.ext e520
      have O35 := O35.ext e520
      have O82 := O82.ext e520
      have LB92 : ∀ g, InW A518 (fun g => InB A514 g ∨ InB A516 g) g → _ := fun g h_ => h_.elim ((P92.mono hS454.size).low g) (fun h_ => h_.elim (fun h_ => LB90 g h_) (fun h_ => LB91 g h_))
      have O92 := Q92
      have hB := ethen hB e520
      have hS454 := hS454.then e520
      refine ⟨sameBut_chg hS454, ?_⟩
      obtain ⟨hl530, H⟩ := H
      refine appOwnW slt30 slt30.under O82 O92 (N92_82).symm (by decide) (by decide) hB.size rfl (by first | rfl | omega | (simp; done) | (simp; omega)) hl530 (fun A526 c527 w528 P82 e529 => ?_)
      have O4 := O4.app e529 (fun a_ ha_ hb_ => (OwnW.dis_blk O82 O4 (by decide) (by decide) (by decide)) (Or.inl ⟨a_, ha_, hb_⟩))
      have O5 := O5.app e529 (fun a_ ha_ hb_ => (OwnW.dis_blk O82 O5 (by decide) (by decide) (by decide)) (Or.inl ⟨a_, ha_, hb_⟩))
      have O32 := O32.app e529 (fun a_ ha_ hb_ => (OwnW.dis_blk O82 O32 (by decide) (by decide) (by decide)) (Or.inl ⟨a_, ha_, hb_⟩))
      have O33 := O33.app e529 (fun a_ b_ ha_ hb_ hab_ => (OwnW.dis_type O82 O33 (by decide) (by decide) (by decide)) _ (Or.inl ⟨b_, hb_, rfl⟩) ⟨a_, ha_, hab_⟩)
      have N82_35_ := dis_app N82_35 N92_35 e529 O35
      have O35 := O35.app e529 (fun a_ b_ ha_ hb_ hab_ => N82_35 _ (Or.inl ⟨b_, hb_, rfl⟩) ⟨a_, ha_, hab_⟩)
      have N82_35 := N82_35_
      have hsz82_ := hS454.size
      have hS454 := hS454.app e529 (fun g h_ => (Or.inr h_))
      have hB := eappW hB e529 O82
      have O82 := P82
      refine ⟨sameBut_chg hS454, ?_⟩
      refine stBlk O32 (o := 1) (cs' := #[(.slice A26 xs25.length c27), (.slice A526 (((xs444 ++ ([r509] : List D.Warp))).length) c527), (.slice A33 xs32.length c34), (.int .i64 i447), (.int .i64 i448)]) rfl rfl (Nat.le_of_ble_eq_true rfl) rfl (fun w531 P32 e532 => ?_)
      have O4_ := O4.chg e532 N4_32
      have O5_ := O5.chg e532 N5_32
      have O33_ := O33.chg e532 (O33.apart_type O32 (by decide))
      have O35_ := O35.chg e532 (O35.apart_type O32 (by decide))
      have O82_ := O82.chg e532 (OwnW.dis_blk O82 O32 (by decide) (by decide) (by decide))
      have O4 := O4_
      have O5 := O5_
      have O33 := O33_
      have O35 := O35_
      have O82 := O82_
      have hB := echg hB e532 L32
      have O32 := P32
      obtain ⟨m533, hm534, hJ535⟩ := H
      exact ⟨m533, hm534, (IntKind.wrap .i64 (i442 + 1)), (xs444 ++ ([r509] : List D.Warp)), i447, i448, A526, c527, (fun g => F443 g ∨ (fun g => InB A514 g ∨ InB A516 g) g), rfl, hJ535, hB, O32, O82, O4, O5, O33, O35, N82_35⟩
    · have H := (bcase_iff.1 H).2 hc538
      refine ⟨_, _, _, (O32.at 0 rfl rfl), ?_⟩
      refine ⟨_, _, _, (O32.at 1 rfl rfl), ?_⟩
      refine ⟨_, _, _, (O32.at 2 rfl rfl), ?_⟩
      refine ⟨_, (O32.at 3 rfl rfl), ?_⟩
      refine ⟨_, (O32.at 4 rfl rfl), ?_⟩
      refine stBlk O5 (o := 0) (cs' := #[(.slice A26 xs25.length c27), (.slice A445 xs444.length c446), (.slice A33 xs32.length c34), (.int .i64 i447), (.int .i64 i448)]) rfl rfl (Nat.le_of_ble_eq_true rfl) rfl (fun w536 P5 e537 => ?_)
      have O4_ := O4.chg e537 N4_5
      have O32_ := O32.chg e537 (N5_32).symm
      have O33_ := O33.chg e537 (O33.apart_type O5 (by decide))
      have O35_ := O35.chg e537 (O35.apart_type O5 (by decide))
      have O82_ := O82.chg e537 (OwnW.dis_blk O82 O5 (by decide) (by decide) (by decide))
      have O4 := O4_
      have O32 := O32_
      have O33 := O33_
      have O35 := O35_
      have O82 := O82_
      have hB := echg hB e537 L5
      have O5 := P5
      refine ⟨_, _, _, (O5.at 0 rfl rfl), ?_⟩
      refine ⟨_, _, _, (O5.at 1 rfl rfl), ?_⟩
      refine ⟨_, _, _, (O5.at 2 rfl rfl), ?_⟩
      refine ⟨_, (O5.at 3 rfl rfl), ?_⟩
      refine ⟨_, (O5.at 4 rfl rfl), ?_⟩
      obtain rfl := hr.trans H.symm
      exact ⟨A26, c27, A445, c446, F443, A33, c34, rfl, O33, O82, O35, N82_35, hB⟩

def slices_Clone_impl_Frame_impl_Frame.vc (A0 : Option Addr) (n0 : Nat) (c0 : Nat) (w : World) (K : Value → World → Prop) : Prop :=
  bcase (Option.isNone A0) (K (.slice none 0 0) w) (Run Try.prog (Instr.buildSlice 100 0 #[]) w fun v21 w22 => ∃ (A23 : Option Addr) (n24 c25 : Nat), v21 = .slice A23 n24 c25 ∧ Run Try.prog (Builtin.append_ #[100, 100] 100 #[(.slice A23 n24 c25), (.slice A0 n0 c0)]) w22 fun v26 w27 => ∃ (A28 : Option Addr) (n29 c30 : Nat), v26 = .slice A28 n29 c30 ∧ K (.slice A28 n29 c30) w27)

def slices_Clone_impl_Frame_impl_Frame.ann : Ann := (.seq .l (.seq (.seq .l (.two (.seq .l .l) .l)) (.seq .l .l)))

theorem slices_Clone_impl_Frame_impl_Frame.vc_eq (A0 : Option Addr) (n0 : Nat) (c0 : Nat) (w : World) (K : Value → World → Prop) : vcF Try.prog Try.f162 slices_Clone_impl_Frame_impl_Frame.ann [(.slice A0 n0 c0)] K w = slices_Clone_impl_Frame_impl_Frame.vc A0 n0 c0 w K := by kernel_rfl

theorem slices_Clone_impl_Frame_impl_Frame.start {A0 : Option Addr} {n0 : Nat} {c0 : Nat} {w : World} {K : Value → World → Prop} (h : slices_Clone_impl_Frame_impl_Frame.vc A0 n0 c0 w K) : Cll Try.prog 162 #[(.slice A0 n0 c0)] w K :=
  vcF_sound mixed (fn := Try.f162) (by kernel_rfl) (by kernel_rfl) (an := slices_Clone_impl_Frame_impl_Frame.ann) (args := [(.slice A0 n0 c0)]) (by rw [slices_Clone_impl_Frame_impl_Frame.vc_eq]; exact h)

theorem slices_Clone_impl_Frame_impl_Frame.con {xs0 : List D.Frame} {A0 : Option Addr} {c0 : Nat} {r : List D.Frame} {w : World} (hp : M.slices_Clone_impl_Frame_impl_Frame_pre xs0) (hr : r = M.slices_Clone_impl_Frame_impl_Frame xs0) (R0 : Row el132 w A0 xs0) (hc0 : xs0.length ≤ c0) :
    Cll Try.prog 162 #[(.slice A0 xs0.length c0)] w (fun v_ w_ => ∃ (A0_ : Option Addr) (c0_ : Nat), v_ = (.slice A0_ r.length c0_) ∧ Own el132 w_ w.heap.size A0_ c0_ r ∧ Ext w w_) := by
  have H := wp.slices_Clone_impl_Frame_impl_Frame.math xs0 hp
  have hB := Ext.refl w
  refine slices_Clone_impl_Frame_impl_Frame.start ?_
  unfold slices_Clone_impl_Frame_impl_Frame.vc
  unfold wp.slices_Clone_impl_Frame_impl_Frame at H
  obtain ⟨b21, hb22⟩ : ∃ b_, b_ = Option.isNone A0 := ⟨_, rfl⟩
  have H := H b21 (fun h_ => Row.isNone (R0.ext hB) (hb22.symm.trans h_))
  rw [← hb22]
  refine bcase_mk (fun hc31 => ?_) (fun hc31 => ?_)
  · have H := (bcase_iff.1 H).1 hc31
    obtain rfl := hr.trans H.symm
    exact ⟨none, 0, rfl, Own.nil, hB⟩
  · have H := (bcase_iff.1 H).2 hc31
    refine buildOwn el132 ([] : List D.Frame) (fun _ => by kernel_rfl) rfl (fun A23 w24 P2 e25 => ?_)
    have O2 := P2.mono hB.size
    have hB := ethen hB e25
    obtain ⟨hl30, H⟩ := H
    refine appOwn slt100 slt100.under O2 (R0.ext hB) hB.size (by first | rfl | omega | (simp; done) | (simp; omega)) rfl hl30 (fun A26 c27 w28 P2 e29 => ?_)
    have hB := eapp hB e29 O2
    have O2 := P2
    obtain rfl := hr.trans H.symm
    exact ⟨A26, c27, rfl, O2, hB⟩

def impl_copyWarp.vc (x0_0 : Int) (A0_1 : Option Addr) (n0_1 : Nat) (c0_1 : Nat) (A0_2 : Option Addr) (n0_2 : Nat) (c0_2 : Nat) (w : World) (K : Value → World → Prop) : Prop :=
  newK w (.cells #[(.int .i64 x0_0), (.slice A0_1 n0_1 c0_1), (.slice A0_2 n0_2 c0_2)] 102) fun g21 w22 => newK w22 (.cells #[(.int .i64 0), (.slice none 0 0), (.slice none 0 0)] 102) fun g23 w24 => ((∃ (A25 : Option Addr) (n26 : Nat) (c27 : Nat), w24.drew.cell? (((⟨g21, 0, none⟩ : Addr).add 1).add 0) = some (.slice A25 n26 c27) ∧ ((Cll Try.prog 162 #[(.slice A25 n26 c27)] w24.drew fun v28 w29 => (∃ (A30 : Option Addr) (n31 : Nat) (c32 : Nat), v28 = (.slice A30 n31 c32) ∧ ((∃ (A33 : Option Addr) (n34 : Nat) (c35 : Nat), w29.cell? (((⟨g21, 0, none⟩ : Addr).add 2).add 0) = some (.slice A33 n34 c35) ∧ ((Cll Try.prog 66 #[(.slice A33 n34 c35)] w29 fun v36 w37 => (∃ (A38 : Option Addr) (n39 : Nat) (c40 : Nat), v36 = (.slice A38 n39 c40) ∧ ((stCells ((⟨g21, 0, none⟩ : Addr).add 1) [(.slice A30 n31 c32)] 0 w37 fun w41 => ((stCells ((⟨g21, 0, none⟩ : Addr).add 2) [(.slice A38 n39 c40)] 0 w41 fun w42 => ∃ (n43 : Int), w42.cell? ((⟨g21, 0, none⟩ : Addr).add 0) = some (.int .i64 n43) ∧ ∃ (A44 : Option Addr) (n45 : Nat) (c46 : Nat), w42.cell? ((⟨g21, 0, none⟩ : Addr).add 1) = some (.slice A44 n45 c46) ∧ ∃ (A47 : Option Addr) (n48 : Nat) (c49 : Nat), w42.cell? ((⟨g21, 0, none⟩ : Addr).add 2) = some (.slice A47 n48 c49) ∧ stCells (⟨g23, 0, none⟩ : Addr) [(.int .i64 n43), (.slice A44 n45 c46), (.slice A47 n48 c49)] 0 w42 fun w50 => ∃ (n51 : Int), w50.cell? ((⟨g23, 0, none⟩ : Addr).add 0) = some (.int .i64 n51) ∧ ∃ (A52 : Option Addr) (n53 : Nat) (c54 : Nat), w50.cell? ((⟨g23, 0, none⟩ : Addr).add 1) = some (.slice A52 n53 c54) ∧ ∃ (A55 : Option Addr) (n56 : Nat) (c57 : Nat), w50.cell? ((⟨g23, 0, none⟩ : Addr).add 2) = some (.slice A55 n56 c57) ∧ K (.agg #[(.int .i64 n51), (.slice A52 n53 c54), (.slice A55 n56 c57)]) w50) ∧ True)) ∧ True))) ∧ True)) ∧ True))) ∧ (∃ (A58 : Option Addr) (n59 : Nat) (c60 : Nat), w24.drew.cell? (((⟨g21, 0, none⟩ : Addr).add 2).add 0) = some (.slice A58 n59 c60) ∧ ((Cll Try.prog 162 #[(.slice A25 n26 c27)] w24.drew fun v61 w62 => (∃ (A63 : Option Addr) (n64 : Nat) (c65 : Nat), v61 = (.slice A63 n64 c65) ∧ ((Cll Try.prog 66 #[(.slice A58 n59 c60)] w62 fun v66 w67 => (∃ (A68 : Option Addr) (n69 : Nat) (c70 : Nat), v66 = (.slice A68 n69 c70) ∧ ((stCells ((⟨g21, 0, none⟩ : Addr).add 1) [(.slice A63 n64 c65)] 0 w67 fun w71 => ((stCells ((⟨g21, 0, none⟩ : Addr).add 2) [(.slice A68 n69 c70)] 0 w71 fun w72 => ∃ (n73 : Int), w72.cell? ((⟨g21, 0, none⟩ : Addr).add 0) = some (.int .i64 n73) ∧ ∃ (A74 : Option Addr) (n75 : Nat) (c76 : Nat), w72.cell? ((⟨g21, 0, none⟩ : Addr).add 1) = some (.slice A74 n75 c76) ∧ ∃ (A77 : Option Addr) (n78 : Nat) (c79 : Nat), w72.cell? ((⟨g21, 0, none⟩ : Addr).add 2) = some (.slice A77 n78 c79) ∧ stCells (⟨g23, 0, none⟩ : Addr) [(.int .i64 n73), (.slice A74 n75 c76), (.slice A77 n78 c79)] 0 w72 fun w80 => ∃ (n81 : Int), w80.cell? ((⟨g23, 0, none⟩ : Addr).add 0) = some (.int .i64 n81) ∧ ∃ (A82 : Option Addr) (n83 : Nat) (c84 : Nat), w80.cell? ((⟨g23, 0, none⟩ : Addr).add 1) = some (.slice A82 n83 c84) ∧ ∃ (A85 : Option Addr) (n86 : Nat) (c87 : Nat), w80.cell? ((⟨g23, 0, none⟩ : Addr).add 2) = some (.slice A85 n86 c87) ∧ K (.agg #[(.int .i64 n81), (.slice A82 n83 c84), (.slice A85 n86 c87)]) w80) ∧ True)) ∧ True))) ∧ True))) ∧ True)) ∧ True)) ∧ (∃ (A88 : Option Addr) (n89 : Nat) (c90 : Nat), w24.drew.cell? (((⟨g21, 0, none⟩ : Addr).add 2).add 0) = some (.slice A88 n89 c90) ∧ ((∃ (A91 : Option Addr) (n92 : Nat) (c93 : Nat), w24.drew.cell? (((⟨g21, 0, none⟩ : Addr).add 1).add 0) = some (.slice A91 n92 c93) ∧ ((Cll Try.prog 162 #[(.slice A91 n92 c93)] w24.drew fun v94 w95 => (∃ (A96 : Option Addr) (n97 : Nat) (c98 : Nat), v94 = (.slice A96 n97 c98) ∧ ((Cll Try.prog 66 #[(.slice A88 n89 c90)] w95 fun v99 w100 => (∃ (A101 : Option Addr) (n102 : Nat) (c103 : Nat), v99 = (.slice A101 n102 c103) ∧ ((stCells ((⟨g21, 0, none⟩ : Addr).add 1) [(.slice A96 n97 c98)] 0 w100 fun w104 => ((stCells ((⟨g21, 0, none⟩ : Addr).add 2) [(.slice A101 n102 c103)] 0 w104 fun w105 => ∃ (n106 : Int), w105.cell? ((⟨g21, 0, none⟩ : Addr).add 0) = some (.int .i64 n106) ∧ ∃ (A107 : Option Addr) (n108 : Nat) (c109 : Nat), w105.cell? ((⟨g21, 0, none⟩ : Addr).add 1) = some (.slice A107 n108 c109) ∧ ∃ (A110 : Option Addr) (n111 : Nat) (c112 : Nat), w105.cell? ((⟨g21, 0, none⟩ : Addr).add 2) = some (.slice A110 n111 c112) ∧ stCells (⟨g23, 0, none⟩ : Addr) [(.int .i64 n106), (.slice A107 n108 c109), (.slice A110 n111 c112)] 0 w105 fun w113 => ∃ (n114 : Int), w113.cell? ((⟨g23, 0, none⟩ : Addr).add 0) = some (.int .i64 n114) ∧ ∃ (A115 : Option Addr) (n116 : Nat) (c117 : Nat), w113.cell? ((⟨g23, 0, none⟩ : Addr).add 1) = some (.slice A115 n116 c117) ∧ ∃ (A118 : Option Addr) (n119 : Nat) (c120 : Nat), w113.cell? ((⟨g23, 0, none⟩ : Addr).add 2) = some (.slice A118 n119 c120) ∧ K (.agg #[(.int .i64 n114), (.slice A115 n116 c117), (.slice A118 n119 c120)]) w113) ∧ True)) ∧ True))) ∧ True))) ∧ True)) ∧ True)) ∧ True)

def impl_copyWarp.ann : Ann := (.seq .l (.seq .each (.seq .l .l)))

theorem impl_copyWarp.vc_eq (x0_0 : Int) (A0_1 : Option Addr) (n0_1 : Nat) (c0_1 : Nat) (A0_2 : Option Addr) (n0_2 : Nat) (c0_2 : Nat) (w : World) (K : Value → World → Prop) : vcF Try.prog Try.f121 impl_copyWarp.ann [(.agg #[(.int .i64 x0_0), (.slice A0_1 n0_1 c0_1), (.slice A0_2 n0_2 c0_2)])] K w = impl_copyWarp.vc x0_0 A0_1 n0_1 c0_1 A0_2 n0_2 c0_2 w K := by kernel_rfl

theorem impl_copyWarp.start {x0_0 : Int} {A0_1 : Option Addr} {n0_1 : Nat} {c0_1 : Nat} {A0_2 : Option Addr} {n0_2 : Nat} {c0_2 : Nat} {w : World} {K : Value → World → Prop} (h : impl_copyWarp.vc x0_0 A0_1 n0_1 c0_1 A0_2 n0_2 c0_2 w K) : Cll Try.prog 121 #[(.agg #[(.int .i64 x0_0), (.slice A0_1 n0_1 c0_1), (.slice A0_2 n0_2 c0_2)])] w K :=
  vcF_sound mixed (fn := Try.f121) (by kernel_rfl) (by kernel_rfl) (an := impl_copyWarp.ann) (args := [(.agg #[(.int .i64 x0_0), (.slice A0_1 n0_1 c0_1), (.slice A0_2 n0_2 c0_2)])]) (by rw [impl_copyWarp.vc_eq]; exact h)

theorem impl_copyWarp.con {s0 : D.Warp} {A0_1 : Option Addr} {c0_1 : Nat} {A0_2 : Option Addr} {c0_2 : Nat} {r : D.Warp} {w : World} (hp : M.impl_copyWarp_pre s0) (hr : r = M.impl_copyWarp s0) (R0_1 : Row el132 w A0_1 s0.Frames) (hc0_1 : s0.Frames.length ≤ c0_1) (R0_2 : Row el3 w A0_2 s0.Regs) (hc0_2 : s0.Regs.length ≤ c0_2) :
    Cll Try.prog 121 #[(.agg #[(.int .i64 s0.Number), (.slice A0_1 s0.Frames.length c0_1), (.slice A0_2 s0.Regs.length c0_2)])] w (fun v_ w_ => ∃ (A0_ : Option Addr) (c0_ : Nat) (A1_ : Option Addr) (c1_ : Nat), v_ = (.agg #[(.int .i64 r.Number), (.slice A0_ r.Frames.length c0_), (.slice A1_ r.Regs.length c1_)]) ∧ Own el132 w_ w.heap.size A0_ c0_ r.Frames ∧ Own el3 w_ w.heap.size A1_ c1_ r.Regs ∧ Ext w w_) := by
  have H := wp.impl_copyWarp.math s0 hp
  have hB := Ext.refl w
  refine impl_copyWarp.start ?_
  unfold impl_copyWarp.vc
  unfold wp.impl_copyWarp at H
  refine newBlk (fun g3_ w21 L3 P3 e22 => ?_)
  have O3 := P3
  have L3 := Nat.le_trans hB.size L3
  have hB := ethen hB e22
  refine newBlk (fun g4_ w23 L4 P4 e24 => ?_)
  have N3_4 := O3.ne L4
  have O3 := O3.ext e24
  have O4 := P4
  have L4 := Nat.le_trans hB.size L4
  have hB := ethen hB e24
  have O3 := O3.ext (Ext.drew _)
  have O4 := O4.ext (Ext.drew _)
  have hB := ethen hB (Ext.drew _)
  refine And.intro ?_ ?_
  · have H := H.1
    refine ⟨_, _, _, (O3.at 1 rfl rfl), ?_⟩
    refine And.intro ?_ ?_
    · have H := H.1
      obtain ⟨hp27, H⟩ := H
      obtain ⟨r25, hr26⟩ : ∃ r_, r_ = M.slices_Clone_impl_Frame_impl_Frame s0.Frames := ⟨_, rfl⟩
      have H := H r25 hr26
      refine (slices_Clone_impl_Frame_impl_Frame.con hp27 hr26 (R0_1.ext hB) hc0_1).mono ?_
      rintro _ w28 ⟨A30, c31, rfl, P5, e29⟩
      have N5_3 := P5.apart_old O3.lt
      have N5_4 := P5.apart_old O4.lt
      have O3 := O3.ext e29
      have O4 := O4.ext e29
      have O5 := P5.mono hB.size
      have hB := ethen hB e29
      refine ⟨A30, r25.length, c31, rfl, ?_⟩
      refine and_t ?_
      refine ⟨_, _, _, (O3.at 2 rfl rfl), ?_⟩
      refine and_t ?_
      obtain ⟨hp34, H⟩ := H
      obtain ⟨r32, hr33⟩ : ∃ r_, r_ = M.slices_Clone_int_int s0.Regs := ⟨_, rfl⟩
      have H := H r32 hr33
      refine (slices_Clone_int_int.con hp34 hr33 (R0_2.ext hB) hc0_2).mono ?_
      rintro _ w35 ⟨A37, c38, rfl, P6, e36⟩
      have N6_3 := P6.apart_old O3.lt
      have N6_4 := P6.apart_old O4.lt
      have N5_6 := Own.apart2_new O5 P6 (Nat.le_refl _)
      have O3 := O3.ext e36
      have O4 := O4.ext e36
      have O5 := O5.ext e36
      have O6 := P6.mono hB.size
      have hB := ethen hB e36
      refine ⟨A37, r32.length, c38, rfl, ?_⟩
      refine and_t ?_
      refine stBlk O3 (o := 1) (cs' := #[(.int .i64 s0.Number), (.slice A30 r25.length c31), (.slice A0_2 s0.Regs.length c0_2)]) rfl rfl (Nat.le_of_ble_eq_true rfl) rfl (fun w39 P3 e40 => ?_)
      have O4_ := O4.chg e40 (N3_4).symm
      have O5_ := O5.chg e40 N5_3
      have O6_ := O6.chg e40 N6_3
      have O4 := O4_
      have O5 := O5_
      have O6 := O6_
      have hB := echg hB e40 L3
      have O3 := P3
      refine and_t ?_
      refine stBlk O3 (o := 2) (cs' := #[(.int .i64 s0.Number), (.slice A30 r25.length c31), (.slice A37 r32.length c38)]) rfl rfl (Nat.le_of_ble_eq_true rfl) rfl (fun w41 P3 e42 => ?_)
      have O4_ := O4.chg e42 (N3_4).symm
      have O5_ := O5.chg e42 N5_3
      have O6_ := O6.chg e42 N6_3
      have O4 := O4_
      have O5 := O5_
      have O6 := O6_
      have hB := echg hB e42 L3
      have O3 := P3
      refine ⟨_, (O3.at 0 rfl rfl), ?_⟩
      refine ⟨_, _, _, (O3.at 1 rfl rfl), ?_⟩
      refine ⟨_, _, _, (O3.at 2 rfl rfl), ?_⟩
      refine stBlk O4 (o := 0) (cs' := #[(.int .i64 s0.Number), (.slice A30 r25.length c31), (.slice A37 r32.length c38)]) rfl rfl (Nat.le_of_ble_eq_true rfl) rfl (fun w43 P4 e44 => ?_)
      have O3_ := O3.chg e44 N3_4
      have O5_ := O5.chg e44 N5_4
      have O6_ := O6.chg e44 N6_4
      have O3 := O3_
      have O5 := O5_
      have O6 := O6_
      have hB := echg hB e44 L4
      have O4 := P4
      refine ⟨_, (O4.at 0 rfl rfl), ?_⟩
      refine ⟨_, _, _, (O4.at 1 rfl rfl), ?_⟩
      refine ⟨_, _, _, (O4.at 2 rfl rfl), ?_⟩
      obtain rfl := hr.trans H.symm
      exact ⟨A30, c31, A37, c38, rfl, O5, O6, hB⟩
    · refine And.intro ?_ ?_
      · have H := H.2.1
        refine ⟨_, _, _, (O3.at 2 rfl rfl), ?_⟩
        refine and_t ?_
        obtain ⟨hp47, H⟩ := H
        obtain ⟨r45, hr46⟩ : ∃ r_, r_ = M.slices_Clone_impl_Frame_impl_Frame s0.Frames := ⟨_, rfl⟩
        have H := H r45 hr46
        refine (slices_Clone_impl_Frame_impl_Frame.con hp47 hr46 (R0_1.ext hB) hc0_1).mono ?_
        rintro _ w48 ⟨A50, c51, rfl, P7, e49⟩
        have N7_3 := P7.apart_old O3.lt
        have N7_4 := P7.apart_old O4.lt
        have O3 := O3.ext e49
        have O4 := O4.ext e49
        have O7 := P7.mono hB.size
        have hB := ethen hB e49
        refine ⟨A50, r45.length, c51, rfl, ?_⟩
        refine and_t ?_
        obtain ⟨hp54, H⟩ := H
        obtain ⟨r52, hr53⟩ : ∃ r_, r_ = M.slices_Clone_int_int s0.Regs := ⟨_, rfl⟩
        have H := H r52 hr53
        refine (slices_Clone_int_int.con hp54 hr53 (R0_2.ext hB) hc0_2).mono ?_
        rintro _ w55 ⟨A57, c58, rfl, P8, e56⟩
        have N8_3 := P8.apart_old O3.lt
        have N8_4 := P8.apart_old O4.lt
        have N7_8 := Own.apart2_new O7 P8 (Nat.le_refl _)
        have O3 := O3.ext e56
        have O4 := O4.ext e56
        have O7 := O7.ext e56
        have O8 := P8.mono hB.size
        have hB := ethen hB e56
        refine ⟨A57, r52.length, c58, rfl, ?_⟩
        refine and_t ?_
        refine stBlk O3 (o := 1) (cs' := #[(.int .i64 s0.Number), (.slice A50 r45.length c51), (.slice A0_2 s0.Regs.length c0_2)]) rfl rfl (Nat.le_of_ble_eq_true rfl) rfl (fun w59 P3 e60 => ?_)
        have O4_ := O4.chg e60 (N3_4).symm
        have O7_ := O7.chg e60 N7_3
        have O8_ := O8.chg e60 N8_3
        have O4 := O4_
        have O7 := O7_
        have O8 := O8_
        have hB := echg hB e60 L3
        have O3 := P3
        refine and_t ?_
        refine stBlk O3 (o := 2) (cs' := #[(.int .i64 s0.Number), (.slice A50 r45.length c51), (.slice A57 r52.length c58)]) rfl rfl (Nat.le_of_ble_eq_true rfl) rfl (fun w61 P3 e62 => ?_)
        have O4_ := O4.chg e62 (N3_4).symm
        have O7_ := O7.chg e62 N7_3
        have O8_ := O8.chg e62 N8_3
        have O4 := O4_
        have O7 := O7_
        have O8 := O8_
        have hB := echg hB e62 L3
        have O3 := P3
        refine ⟨_, (O3.at 0 rfl rfl), ?_⟩
        refine ⟨_, _, _, (O3.at 1 rfl rfl), ?_⟩
        refine ⟨_, _, _, (O3.at 2 rfl rfl), ?_⟩
        refine stBlk O4 (o := 0) (cs' := #[(.int .i64 s0.Number), (.slice A50 r45.length c51), (.slice A57 r52.length c58)]) rfl rfl (Nat.le_of_ble_eq_true rfl) rfl (fun w63 P4 e64 => ?_)
        have O3_ := O3.chg e64 N3_4
        have O7_ := O7.chg e64 N7_4
        have O8_ := O8.chg e64 N8_4
        have O3 := O3_
        have O7 := O7_
        have O8 := O8_
        have hB := echg hB e64 L4
        have O4 := P4
        refine ⟨_, (O4.at 0 rfl rfl), ?_⟩
        refine ⟨_, _, _, (O4.at 1 rfl rfl), ?_⟩
        refine ⟨_, _, _, (O4.at 2 rfl rfl), ?_⟩
        obtain rfl := hr.trans H.symm
        exact ⟨A50, c51, A57, c58, rfl, O7, O8, hB⟩
      · exact trivial
  · refine And.intro ?_ ?_
    · have H := H.2.1
      refine ⟨_, _, _, (O3.at 2 rfl rfl), ?_⟩
      refine and_t ?_
      refine ⟨_, _, _, (O3.at 1 rfl rfl), ?_⟩
      refine and_t ?_
      obtain ⟨hp67, H⟩ := H
      obtain ⟨r65, hr66⟩ : ∃ r_, r_ = M.slices_Clone_impl_Frame_impl_Frame s0.Frames := ⟨_, rfl⟩
      have H := H r65 hr66
      refine (slices_Clone_impl_Frame_impl_Frame.con hp67 hr66 (R0_1.ext hB) hc0_1).mono ?_
      rintro _ w68 ⟨A70, c71, rfl, P9, e69⟩
      have N9_3 := P9.apart_old O3.lt
      have N9_4 := P9.apart_old O4.lt
      have O3 := O3.ext e69
      have O4 := O4.ext e69
      have O9 := P9.mono hB.size
      have hB := ethen hB e69
      refine ⟨A70, r65.length, c71, rfl, ?_⟩
      refine and_t ?_
      obtain ⟨hp74, H⟩ := H
      obtain ⟨r72, hr73⟩ : ∃ r_, r_ = M.slices_Clone_int_int s0.Regs := ⟨_, rfl⟩
      have H := H r72 hr73
      refine (slices_Clone_int_int.con hp74 hr73 (R0_2.ext hB) hc0_2).mono ?_
      rintro _ w75 ⟨A77, c78, rfl, P10, e76⟩
      have N10_3 := P10.apart_old O3.lt
      have N10_4 := P10.apart_old O4.lt
      have N9_10 := Own.apart2_new O9 P10 (Nat.le_refl _)
      have O3 := O3.ext e76
      have O4 := O4.ext e76
      have O9 := O9.ext e76
      have O10 := P10.mono hB.size
      have hB := ethen hB e76
      refine ⟨A77, r72.length, c78, rfl, ?_⟩
      refine and_t ?_
      refine stBlk O3 (o := 1) (cs' := #[(.int .i64 s0.Number), (.slice A70 r65.length c71), (.slice A0_2 s0.Regs.length c0_2)]) rfl rfl (Nat.le_of_ble_eq_true rfl) rfl (fun w79 P3 e80 => ?_)
      have O4_ := O4.chg e80 (N3_4).symm
      have O9_ := O9.chg e80 N9_3
      have O10_ := O10.chg e80 N10_3
      have O4 := O4_
      have O9 := O9_
      have O10 := O10_
      have hB := echg hB e80 L3
      have O3 := P3
      refine and_t ?_
      refine stBlk O3 (o := 2) (cs' := #[(.int .i64 s0.Number), (.slice A70 r65.length c71), (.slice A77 r72.length c78)]) rfl rfl (Nat.le_of_ble_eq_true rfl) rfl (fun w81 P3 e82 => ?_)
      have O4_ := O4.chg e82 (N3_4).symm
      have O9_ := O9.chg e82 N9_3
      have O10_ := O10.chg e82 N10_3
      have O4 := O4_
      have O9 := O9_
      have O10 := O10_
      have hB := echg hB e82 L3
      have O3 := P3
      refine ⟨_, (O3.at 0 rfl rfl), ?_⟩
      refine ⟨_, _, _, (O3.at 1 rfl rfl), ?_⟩
      refine ⟨_, _, _, (O3.at 2 rfl rfl), ?_⟩
      refine stBlk O4 (o := 0) (cs' := #[(.int .i64 s0.Number), (.slice A70 r65.length c71), (.slice A77 r72.length c78)]) rfl rfl (Nat.le_of_ble_eq_true rfl) rfl (fun w83 P4 e84 => ?_)
      have O3_ := O3.chg e84 N3_4
      have O9_ := O9.chg e84 N9_4
      have O10_ := O10.chg e84 N10_4
      have O3 := O3_
      have O9 := O9_
      have O10 := O10_
      have hB := echg hB e84 L4
      have O4 := P4
      refine ⟨_, (O4.at 0 rfl rfl), ?_⟩
      refine ⟨_, _, _, (O4.at 1 rfl rfl), ?_⟩
      refine ⟨_, _, _, (O4.at 2 rfl rfl), ?_⟩
      obtain rfl := hr.trans H.symm
      exact ⟨A70, c71, A77, c78, rfl, O9, O10, hB⟩
    · exact trivial

def impl_copyBlock.vc (A0_0 : Option Addr) (n0_0 : Nat) (c0_0 : Nat) (A0_1 : Option Addr) (n0_1 : Nat) (c0_1 : Nat) (A0_2 : Option Addr) (n0_2 : Nat) (c0_2 : Nat) (x0_3 : Int) (x0_4 : Int) (w : World) (K : Value → World → Prop) : Prop :=
  newK w (.cells #[(.slice A0_0 n0_0 c0_0), (.slice A0_1 n0_1 c0_1), (.slice A0_2 n0_2 c0_2), (.int .i64 x0_3), (.int .i64 x0_4)] 32) fun g21 w22 => newK w22 (.cells #[(.slice none 0 0), (.slice none 0 0), (.slice none 0 0), (.int .i64 0), (.int .i64 0)] 32) fun g23 w24 => JoinT (σ := Addr × Unit) (fun J25 => (∃ M26 : Nat → Prop, ∃ (A27 : Option Addr) (n28 : Nat) (c29 : Nat), (¬ M26 (((⟨g21, 0, none⟩ : Addr).add 0)).block ∧ w24.cell? (((⟨g21, 0, none⟩ : Addr).add 0).add 0) = some (.slice A27 n28 c29)) ∧ ∃ (A30 : Option Addr) (n31 : Nat) (c32 : Nat), (¬ M26 (((⟨g21, 0, none⟩ : Addr).add 2)).block ∧ w24.cell? (((⟨g21, 0, none⟩ : Addr).add 2).add 0) = some (.slice A30 n31 c32)) ∧ ∃ (n33 : Int), (¬ M26 (((⟨g21, 0, none⟩ : Addr).add 3)).block ∧ w24.cell? (((⟨g21, 0, none⟩ : Addr).add 3).add 0) = some (.int .i64 n33)) ∧ ∃ (n34 : Int), (¬ M26 (((⟨g21, 0, none⟩ : Addr).add 4)).block ∧ w24.cell? (((⟨g21, 0, none⟩ : Addr).add 4).add 0) = some (.int .i64 n34)) ∧ ((Cll Try.prog 93 #[(.slice A27 n28 c29)] w24.drew fun v35 w36 => (∃ (A37 : Option Addr) (n38 : Nat) (c39 : Nat), v35 = (.slice A37 n38 c39) ∧ SameBut M26 w24 w36 ∧ ((Cll Try.prog 66 #[(.slice A30 n31 c32)] w36 fun v40 w41 => (∃ (A42 : Option Addr) (n43 : Nat) (c44 : Nat), v40 = (.slice A42 n43 c44) ∧ SameBut M26 w24 w41 ∧ newK w41 (.cells #[(.slice none 0 0), (.slice none 0 0), (.slice none 0 0), (.int .i64 0), (.int .i64 0)] 32) fun g45 w46 => SameBut M26 w24 w46 ∧ stCells (⟨g45, 0, none⟩ : Addr) [(.slice A37 n38 c39), (.slice none 0 0), (.slice A42 n43 c44), (.int .i64 n33), (.int .i64 n34)] 0 w46 fun w47 => J25 ((⟨g45, 0, none⟩ : Addr), ()) w47)) ∧ (newK w36 (.cells #[(.slice none 0 0), (.slice none 0 0), (.slice none 0 0), (.int .i64 0), (.int .i64 0)] 32) fun g48 w49 => SameBut M26 w24 w49 ∧ Cll Try.prog 66 #[(.slice A30 n31 c32)] w49 fun v50 w51 => (∃ (A52 : Option Addr) (n53 : Nat) (c54 : Nat), v50 = (.slice A52 n53 c54) ∧ SameBut M26 w24 w51 ∧ stCells (⟨g48, 0, none⟩ : Addr) [(.slice A37 n38 c39), (.slice none 0 0), (.slice A52 n53 c54), (.int .i64 n33), (.int .i64 n34)] 0 w51 fun w55 => J25 ((⟨g48, 0, none⟩ : Addr), ()) w55)) ∧ True))) ∧ (newK w24.drew (.cells #[(.slice none 0 0), (.slice none 0 0), (.slice none 0 0), (.int .i64 0), (.int .i64 0)] 32) fun g56 w57 => SameBut M26 w24 w57 ∧ Cll Try.prog 93 #[(.slice A27 n28 c29)] w57 fun v58 w59 => (∃ (A60 : Option Addr) (n61 : Nat) (c62 : Nat), v58 = (.slice A60 n61 c62) ∧ SameBut M26 w24 w59 ∧ Cll Try.prog 66 #[(.slice A30 n31 c32)] w59 fun v63 w64 => (∃ (A65 : Option Addr) (n66 : Nat) (c67 : Nat), v63 = (.slice A65 n66 c67) ∧ SameBut M26 w24 w64 ∧ stCells (⟨g56, 0, none⟩ : Addr) [(.slice A60 n61 c62), (.slice none 0 0), (.slice A65 n66 c67), (.int .i64 n33), (.int .i64 n34)] 0 w64 fun w68 => J25 ((⟨g56, 0, none⟩ : Addr), ()) w68))) ∧ True))) fun z69 w70 => ∃ (A71 : Option Addr) (n72 : Nat) (c73 : Nat), w70.cell? (((⟨g21, 0, none⟩ : Addr).add 1).add 0) = some (.slice A71 n72 c73) ∧ LoopT (σ := Int × Unit) (fun z74 w75 next76 => bcase (decide (z74.1 < ((n72 : Nat) : Int))) (((0 : Int) ≤ z74.1 ∧ z74.1 < ((n72 : Nat) : Int) ∧ ∃ a77 : Addr, A71 = some a77 ∧ ∃ (n78 : Int), w75.cell? ((a77.add ((z74.1.toNat) * 3)).add 0) = some (.int .i64 n78) ∧ ∃ (A79 : Option Addr) (n80 : Nat) (c81 : Nat), w75.cell? ((a77.add ((z74.1.toNat) * 3)).add 1) = some (.slice A79 n80 c81) ∧ ∃ (A82 : Option Addr) (n83 : Nat) (c84 : Nat), w75.cell? ((a77.add ((z74.1.toNat) * 3)).add 2) = some (.slice A82 n83 c84) ∧ newK w75 (.cells #[(.int .i64 0), (.slice none 0 0), (.slice none 0 0)] 102) fun g85 w86 => stCells (⟨g85, 0, none⟩ : Addr) [(.int .i64 n78), (.slice A79 n80 c81), (.slice A82 n83 c84)] 0 w86 fun w87 => (∃ M88 : Nat → Prop, ∃ (A89 : Option Addr) (n90 : Nat) (c91 : Nat), (¬ M88 ((z69.1.add 1)).block ∧ w87.cell? ((z69.1.add 1).add 0) = some (.slice A89 n90 c91)) ∧ ∃ (n92 : Int), (¬ M88 ((⟨g85, 0, none⟩ : Addr)).block ∧ w87.cell? ((⟨g85, 0, none⟩ : Addr).add 0) = some (.int .i64 n92)) ∧ ∃ (A93 : Option Addr) (n94 : Nat) (c95 : Nat), (¬ M88 ((⟨g85, 0, none⟩ : Addr)).block ∧ w87.cell? ((⟨g85, 0, none⟩ : Addr).add 1) = some (.slice A93 n94 c95)) ∧ ∃ (A96 : Option Addr) (n97 : Nat) (c98 : Nat), (¬ M88 ((⟨g85, 0, none⟩ : Addr)).block ∧ w87.cell? ((⟨g85, 0, none⟩ : Addr).add 2) = some (.slice A96 n97 c98)) ∧ Cll Try.prog 121 #[(.agg #[(.int .i64 n92), (.slice A93 n94 c95), (.slice A96 n97 c98)])] w87.drew fun v99 w100 => (∃ (n101 : Int), True ∧ ∃ (A102 : Option Addr) (n103 : Nat) (c104 : Nat), True ∧ ∃ (A105 : Option Addr) (n106 : Nat) (c107 : Nat), True ∧ v99 = (.agg #[(.int .i64 n101), (.slice A102 n103 c104), (.slice A105 n106 c107)]) ∧ SameBut M88 w87 w100 ∧ Run Try.prog (Instr.buildSlice 30 1 #[(0, (.agg #[(.int .i64 n101), (.slice A102 n103 c104), (.slice A105 n106 c107)]))]) w100 fun v108 w109 => ∃ (A110 : Option Addr) (n111 c112 : Nat), v108 = .slice A110 n111 c112 ∧ SameBut M88 w87 w109 ∧ Run Try.prog (Builtin.append_ #[30, 30] 30 #[(.slice A89 n90 c91), (.slice A110 n111 c112)]) w109 fun v113 w114 => ∃ (A115 : Option Addr) (n116 c117 : Nat), v113 = .slice A115 n116 c117 ∧ SameBut M88 w87 w114 ∧ stCells (z69.1.add 1) [(.slice A115 n116 c117)] 0 w114 fun w118 => next76 ((IntKind.wrap .i64 (z74.1 + 1)), ()) w118)))) (∃ (A119 : Option Addr) (n120 : Nat) (c121 : Nat), w75.cell? (z69.1.add 0) = some (.slice A119 n120 c121) ∧ ∃ (A122 : Option Addr) (n123 : Nat) (c124 : Nat), w75.cell? (z69.1.add 1) = some (.slice A122 n123 c124) ∧ ∃ (A125 : Option Addr) (n126 : Nat) (c127 : Nat), w75.cell? (z69.1.add 2) = some (.slice A125 n126 c127) ∧ ∃ (n128 : Int), w75.cell? (z69.1.add 3) = some (.int .i64 n128) ∧ ∃ (n129 : Int), w75.cell? (z69.1.add 4) = some (.int .i64 n129) ∧ stCells (⟨g23, 0, none⟩ : Addr) [(.slice A119 n120 c121), (.slice A122 n123 c124), (.slice A125 n126 c127), (.int .i64 n128), (.int .i64 n129)] 0 w75 fun w130 => ∃ (A131 : Option Addr) (n132 : Nat) (c133 : Nat), w130.cell? ((⟨g23, 0, none⟩ : Addr).add 0) = some (.slice A131 n132 c133) ∧ ∃ (A134 : Option Addr) (n135 : Nat) (c136 : Nat), w130.cell? ((⟨g23, 0, none⟩ : Addr).add 1) = some (.slice A134 n135 c136) ∧ ∃ (A137 : Option Addr) (n138 : Nat) (c139 : Nat), w130.cell? ((⟨g23, 0, none⟩ : Addr).add 2) = some (.slice A137 n138 c139) ∧ ∃ (n140 : Int), w130.cell? ((⟨g23, 0, none⟩ : Addr).add 3) = some (.int .i64 n140) ∧ ∃ (n141 : Int), w130.cell? ((⟨g23, 0, none⟩ : Addr).add 4) = some (.int .i64 n141) ∧ K (.agg #[(.slice A131 n132 c133), (.slice A134 n135 c136), (.slice A137 n138 c139), (.int .i64 n140), (.int .i64 n141)]) w130)) (0, ()) w70

def impl_copyBlock.ann : Ann := (.seq .l (.cut [(3, .ptr)] .l (.seq (.seq .l (.one (.loop [(20, .int .i64)] (.seq .l (.seq (.two .l .l) (.seq (.one (.seq .l .l)) .l)))))) (.seq .l .l))))

theorem impl_copyBlock.vc_eq (A0_0 : Option Addr) (n0_0 : Nat) (c0_0 : Nat) (A0_1 : Option Addr) (n0_1 : Nat) (c0_1 : Nat) (A0_2 : Option Addr) (n0_2 : Nat) (c0_2 : Nat) (x0_3 : Int) (x0_4 : Int) (w : World) (K : Value → World → Prop) : vcF Try.prog Try.f64 impl_copyBlock.ann [(.agg #[(.slice A0_0 n0_0 c0_0), (.slice A0_1 n0_1 c0_1), (.slice A0_2 n0_2 c0_2), (.int .i64 x0_3), (.int .i64 x0_4)])] K w = impl_copyBlock.vc A0_0 n0_0 c0_0 A0_1 n0_1 c0_1 A0_2 n0_2 c0_2 x0_3 x0_4 w K := by kernel_rfl

theorem impl_copyBlock.start {A0_0 : Option Addr} {n0_0 : Nat} {c0_0 : Nat} {A0_1 : Option Addr} {n0_1 : Nat} {c0_1 : Nat} {A0_2 : Option Addr} {n0_2 : Nat} {c0_2 : Nat} {x0_3 : Int} {x0_4 : Int} {w : World} {K : Value → World → Prop} (h : impl_copyBlock.vc A0_0 n0_0 c0_0 A0_1 n0_1 c0_1 A0_2 n0_2 c0_2 x0_3 x0_4 w K) : Cll Try.prog 64 #[(.agg #[(.slice A0_0 n0_0 c0_0), (.slice A0_1 n0_1 c0_1), (.slice A0_2 n0_2 c0_2), (.int .i64 x0_3), (.int .i64 x0_4)])] w K :=
  vcF_sound mixed (fn := Try.f64) (by kernel_rfl) (by kernel_rfl) (an := impl_copyBlock.ann) (args := [(.agg #[(.slice A0_0 n0_0 c0_0), (.slice A0_1 n0_1 c0_1), (.slice A0_2 n0_2 c0_2), (.int .i64 x0_3), (.int .i64 x0_4)])]) (by rw [impl_copyBlock.vc_eq]; exact h)

theorem impl_copyBlock.con {s0 : D.Block} {A0_0 : Option Addr} {c0_0 : Nat} {A0_1 : Option Addr} {c0_1 : Nat} {A0_2 : Option Addr} {c0_2 : Nat} {r : D.Block} {w : World} (hp : M.impl_copyBlock_pre s0) (hr : r = M.impl_copyBlock s0) (R0_0 : Row el76 w A0_0 s0.Code) (hc0_0 : s0.Code.length ≤ c0_0) (R0_1 : RowW 102 el132 el3 w A0_1 s0.Warps) (hc0_1 : s0.Warps.length ≤ c0_1) (R0_2 : Row el3 w A0_2 s0.Memory) (hc0_2 : s0.Memory.length ≤ c0_2) :
    Cll Try.prog 64 #[(.agg #[(.slice A0_0 s0.Code.length c0_0), (.slice A0_1 s0.Warps.length c0_1), (.slice A0_2 s0.Memory.length c0_2), (.int .i64 s0.Waiting), (.int .i64 s0.Phase)])] w (fun v_ w_ => ∃ (A0_ : Option Addr) (c0_ : Nat) (A1_ : Option Addr) (c1_ : Nat) (F1_ : Nat → Prop) (A2_ : Option Addr) (c2_ : Nat), v_ = (.agg #[(.slice A0_ r.Code.length c0_), (.slice A1_ r.Warps.length c1_), (.slice A2_ r.Memory.length c2_), (.int .i64 r.Waiting), (.int .i64 r.Phase)]) ∧ Own el76 w_ w.heap.size A0_ c0_ r.Code ∧ OwnW 102 el132 el3 w_ w.heap.size F1_ A1_ c1_ r.Warps ∧ Own el3 w_ w.heap.size A2_ c2_ r.Memory ∧ Dis (InW A1_ F1_) (InB A2_) ∧ Ext w w_) := by
  have H := wp.impl_copyBlock.math s0 hp
  have hB := Ext.refl w
  refine impl_copyBlock.start ?_
  unfold impl_copyBlock.vc
  unfold wp.impl_copyBlock at H
  refine newBlk (fun g4_ w21 L4 P4 e22 => ?_)
  have O4 := P4
  have L4 := Nat.le_trans hB.size L4
  have hB := ethen hB e22
  refine newBlk (fun g5_ w23 L5 P5 e24 => ?_)
  have N4_5 := O4.ne L5
  have O4 := O4.ext e24
  have O5 := P5
  have L5 := Nat.le_trans hB.size L5
  have hB := ethen hB e24
  obtain ⟨K329, hKK329, H⟩ := joinP_out H
  refine ⟨fun z_ w_ => ∃ (xs25 : List D.Ins) (xs29 : List D.Warp) (xs32 : List Int) (i35 : Int) (i36 : Int) (g14_ : Nat) (A26 : Option Addr) (c27 : Nat) (A30 : Option Addr) (c31 : Nat) (F28 : Nat → Prop) (A33 : Option Addr) (c34 : Nat), z_ = ((⟨g14_, 0, none⟩ : Addr), ()) ∧ K329 (xs25, xs29, xs32, i35, i36, ()) ∧ Ext w w_ ∧ Blk w_ g14_ 32 #[(.slice A26 xs25.length c27), (.slice A30 xs29.length c31), (.slice A33 xs32.length c34), (.int .i64 i35), (.int .i64 i36)] ∧ w.heap.size ≤ g14_ ∧ Own el76 w_ w.heap.size A26 c27 xs25 ∧ OwnW 102 el132 el3 w_ w.heap.size F28 A30 c31 xs29 ∧ Own el3 w_ w.heap.size A33 c34 xs32 ∧ Blk w_ g4_ 32 #[(.slice A0_0 s0.Code.length c0_0), (.slice A0_1 s0.Warps.length c0_1), (.slice A0_2 s0.Memory.length c0_2), (.int .i64 s0.Waiting), (.int .i64 s0.Phase)] ∧ Blk w_ g5_ 32 #[(.slice none 0 0), (.slice none 0 0), (.slice none 0 0), (.int .i64 0), (.int .i64 0)] ∧ g4_ ≠ g14_ ∧ g5_ ≠ g14_ ∧ Dis (InW A30 F28) (InB A33), ?_, ?_⟩
  · refine ⟨(fun _ => False), ?_⟩
    refine ⟨_, _, _, ⟨(fun h_ => h_), (O4.at 0 rfl rfl)⟩, ?_⟩
    refine ⟨_, _, _, ⟨(fun h_ => h_), (O4.at 2 rfl rfl)⟩, ?_⟩
    refine ⟨_, ⟨(fun h_ => h_), (O4.at 3 rfl rfl)⟩, ?_⟩
    refine ⟨_, ⟨(fun h_ => h_), (O4.at 4 rfl rfl)⟩, ?_⟩
    refine And.intro ?_ ?_
    · have H := H.1
      have hS40 := Chg.refl (fun _ => False) w23
      have O4 := O4.ext (Ext.drew _)
      have O5 := O5.ext (Ext.drew _)
      have hB := ethen hB (Ext.drew _)
      have hS40 := hS40.then (Ext.drew _)
      obtain ⟨hp43, H⟩ := H
      obtain ⟨r41, hr42⟩ : ∃ r_, r_ = M.slices_Clone_impl_Ins_impl_Ins s0.Code := ⟨_, rfl⟩
      have H := H r41 hr42
      refine (slices_Clone_impl_Ins_impl_Ins.con hp43 hr42 (R0_0.ext hB) hc0_0).mono ?_
      rintro _ w44 ⟨A46, c47, rfl, P18, e45⟩
      have N18_4 := P18.apart_old O4.lt
      have N18_5 := P18.apart_old O5.lt
      have O4 := O4.ext e45
      have O5 := O5.ext e45
      have LB18 := (P18.mono hS40.size).low
      have O18 := P18.mono hB.size
      have hB := ethen hB e45
      have hS40 := hS40.then e45
      refine ⟨A46, r41.length, c47, rfl, ?_⟩
      refine ⟨sameBut_chg hS40, ?_⟩
      refine And.intro ?_ ?_
      · have H := H.1
        obtain ⟨hp50, H⟩ := H
        obtain ⟨r48, hr49⟩ : ∃ r_, r_ = M.slices_Clone_int_int s0.Memory := ⟨_, rfl⟩
        have H := H r48 hr49
        refine (slices_Clone_int_int.con hp50 hr49 (R0_2.ext hB) hc0_2).mono ?_
        rintro _ w51 ⟨A53, c54, rfl, P19, e52⟩
        have N19_4 := P19.apart_old O4.lt
        have N19_5 := P19.apart_old O5.lt
        have N18_19 := Own.apart2_new O18 P19 (Nat.le_refl _)
        have O4 := O4.ext e52
        have O5 := O5.ext e52
        have O18 := O18.ext e52
        have LB19 := (P19.mono hS40.size).low
        have O19 := P19.mono hB.size
        have hB := ethen hB e52
        have hS40 := hS40.then e52
        refine ⟨A53, r48.length, c54, rfl, ?_⟩
        refine ⟨sameBut_chg hS40, ?_⟩
        refine newBlk (fun g20_ w55 L20 P20 e56 => ?_)
        have N4_20 := O4.ne L20
        have N5_20 := O5.ne L20
        have N18_20 := O18.apart_new L20
        have N19_20 := O19.apart_new L20
        have O4 := O4.ext e56
        have O5 := O5.ext e56
        have O18 := O18.ext e56
        have O19 := O19.ext e56
        have O20 := P20
        have LB20 := Nat.le_trans hS40.size L20
        have L20 := Nat.le_trans hB.size L20
        have hB := ethen hB e56
        have hS40 := hS40.then e56
        refine ⟨sameBut_chg hS40, ?_⟩
        refine stBlk O20 (o := 0) (cs' := #[(.slice A46 r41.length c47), (.slice none 0 0), (.slice A53 r48.length c54), (.int .i64 s0.Waiting), (.int .i64 s0.Phase)]) rfl rfl (Nat.le_of_ble_eq_true rfl) rfl (fun w57 P20 e58 => ?_)
        have O4_ := O4.chg e58 N4_20
        have O5_ := O5.chg e58 N5_20
        have O18_ := O18.chg e58 N18_20
        have O19_ := O19.chg e58 N19_20
        have O4 := O4_
        have O5 := O5_
        have O18 := O18_
        have O19 := O19_
        have hB := echg hB e58 L20
        have O20 := P20
        exact ⟨r41, [], r48, s0.Waiting, s0.Phase, g20_, A46, c47, none, 0, (fun _ => False), A53, c54, rfl, H, hB, O20, L20, O18, OwnW.nil, O19, O4, O5, N4_20, N5_20, nilW_dis⟩
      · refine And.intro ?_ ?_
        · have H := H.2.1
          refine newBlk (fun g21_ w59 L21 P21 e60 => ?_)
          have N4_21 := O4.ne L21
          have N5_21 := O5.ne L21
          have N18_21 := O18.apart_new L21
          have O4 := O4.ext e60
          have O5 := O5.ext e60
          have O18 := O18.ext e60
          have O21 := P21
          have LB21 := Nat.le_trans hS40.size L21
          have L21 := Nat.le_trans hB.size L21
          have hB := ethen hB e60
          have hS40 := hS40.then e60
          refine ⟨sameBut_chg hS40, ?_⟩
          obtain ⟨hp63, H⟩ := H
          obtain ⟨r61, hr62⟩ : ∃ r_, r_ = M.slices_Clone_int_int s0.Memory := ⟨_, rfl⟩
          have H := H r61 hr62
          refine (slices_Clone_int_int.con hp63 hr62 (R0_2.ext hB) hc0_2).mono ?_
          rintro _ w64 ⟨A66, c67, rfl, P22, e65⟩
          have N22_4 := P22.apart_old O4.lt
          have N22_5 := P22.apart_old O5.lt
          have N18_22 := Own.apart2_new O18 P22 (Nat.le_refl _)
          have N22_21 := P22.apart_old O21.lt
          have O4 := O4.ext e65
          have O5 := O5.ext e65
          have O18 := O18.ext e65
          have O21 := O21.ext e65
          have LB22 := (P22.mono hS40.size).low
          have O22 := P22.mono hB.size
          have hB := ethen hB e65
          have hS40 := hS40.then e65
          refine ⟨A66, r61.length, c67, rfl, ?_⟩
          refine ⟨sameBut_chg hS40, ?_⟩
          refine stBlk O21 (o := 0) (cs' := #[(.slice A46 r41.length c47), (.slice none 0 0), (.slice A66 r61.length c67), (.int .i64 s0.Waiting), (.int .i64 s0.Phase)]) rfl rfl (Nat.le_of_ble_eq_true rfl) rfl (fun w68 P21 e69 => ?_)
          have O4_ := O4.chg e69 N4_21
          have O5_ := O5.chg e69 N5_21
          have O18_ := O18.chg e69 N18_21
          have O22_ := O22.chg e69 N22_21
          have O4 := O4_
          have O5 := O5_
          have O18 := O18_
          have O22 := O22_
          have hB := echg hB e69 L21
          have O21 := P21
          exact ⟨r41, [], r61, s0.Waiting, s0.Phase, g21_, A46, c47, none, 0, (fun _ => False), A66, c67, rfl, H, hB, O21, L21, O18, OwnW.nil, O22, O4, O5, N4_21, N5_21, nilW_dis⟩
        · exact trivial
    · refine And.intro ?_ ?_
      · have H := H.2.1
        have hS40 := Chg.refl (fun _ => False) w23
        have O4 := O4.ext (Ext.drew _)
        have O5 := O5.ext (Ext.drew _)
        have hB := ethen hB (Ext.drew _)
        have hS40 := hS40.then (Ext.drew _)
        refine newBlk (fun g23_ w70 L23 P23 e71 => ?_)
        have N4_23 := O4.ne L23
        have N5_23 := O5.ne L23
        have O4 := O4.ext e71
        have O5 := O5.ext e71
        have O23 := P23
        have LB23 := Nat.le_trans hS40.size L23
        have L23 := Nat.le_trans hB.size L23
        have hB := ethen hB e71
        have hS40 := hS40.then e71
        refine ⟨sameBut_chg hS40, ?_⟩
        obtain ⟨hp74, H⟩ := H
        obtain ⟨r72, hr73⟩ : ∃ r_, r_ = M.slices_Clone_impl_Ins_impl_Ins s0.Code := ⟨_, rfl⟩
        have H := H r72 hr73
        refine (slices_Clone_impl_Ins_impl_Ins.con hp74 hr73 (R0_0.ext hB) hc0_0).mono ?_
        rintro _ w75 ⟨A77, c78, rfl, P24, e76⟩
        have N24_4 := P24.apart_old O4.lt
        have N24_5 := P24.apart_old O5.lt
        have N24_23 := P24.apart_old O23.lt
        have O4 := O4.ext e76
        have O5 := O5.ext e76
        have O23 := O23.ext e76
        have LB24 := (P24.mono hS40.size).low
        have O24 := P24.mono hB.size
        have hB := ethen hB e76
        have hS40 := hS40.then e76
        refine ⟨A77, r72.length, c78, rfl, ?_⟩
        refine ⟨sameBut_chg hS40, ?_⟩
        obtain ⟨hp81, H⟩ := H
        obtain ⟨r79, hr80⟩ : ∃ r_, r_ = M.slices_Clone_int_int s0.Memory := ⟨_, rfl⟩
        have H := H r79 hr80
        refine (slices_Clone_int_int.con hp81 hr80 (R0_2.ext hB) hc0_2).mono ?_
        rintro _ w82 ⟨A84, c85, rfl, P25, e83⟩
        have N25_4 := P25.apart_old O4.lt
        have N25_5 := P25.apart_old O5.lt
        have N25_23 := P25.apart_old O23.lt
        have N24_25 := Own.apart2_new O24 P25 (Nat.le_refl _)
        have O4 := O4.ext e83
        have O5 := O5.ext e83
        have O23 := O23.ext e83
        have O24 := O24.ext e83
        have LB25 := (P25.mono hS40.size).low
        have O25 := P25.mono hB.size
        have hB := ethen hB e83
        have hS40 := hS40.then e83
        refine ⟨A84, r79.length, c85, rfl, ?_⟩
        refine ⟨sameBut_chg hS40, ?_⟩
        refine stBlk O23 (o := 0) (cs' := #[(.slice A77 r72.length c78), (.slice none 0 0), (.slice A84 r79.length c85), (.int .i64 s0.Waiting), (.int .i64 s0.Phase)]) rfl rfl (Nat.le_of_ble_eq_true rfl) rfl (fun w86 P23 e87 => ?_)
        have O4_ := O4.chg e87 N4_23
        have O5_ := O5.chg e87 N5_23
        have O24_ := O24.chg e87 N24_23
        have O25_ := O25.chg e87 N25_23
        have O4 := O4_
        have O5 := O5_
        have O24 := O24_
        have O25 := O25_
        have hB := echg hB e87 L23
        have O23 := P23
        exact ⟨r72, [], r79, s0.Waiting, s0.Phase, g23_, A77, c78, none, 0, (fun _ => False), A84, c85, rfl, H, hB, O23, L23, O24, OwnW.nil, O25, O4, O5, N4_23, N5_23, nilW_dis⟩
      · exact trivial
  · rintro _ w38 ⟨xs25, xs29, xs32, i35, i36, g14_, A26, c27, A30, c31, F28, A33, c34, rfl, H, hB, O14, L14, O15, O16, O17, O4, O5, N4_14, N5_14, N16_17⟩
    have H := hKK329 _ H
    dsimp only at H ⊢
    refine ⟨_, _, _, (O4.at 1 rfl rfl), ?_⟩
    obtain ⟨J247, ⟨m326, hJ325⟩, hS248⟩ := H
    refine ⟨fun m_ z_ w_ => ∃ (i239 : Int) (xs241 : List D.Warp) (i244 : Int) (i245 : Int) (A242 : Option Addr) (c243 : Nat) (F240 : Nat → Prop), z_ = (i239, ()) ∧ J247 m_ (i239, xs241, i244, i245, ()) ∧ Ext w w_ ∧ Blk w_ g14_ 32 #[(.slice A26 xs25.length c27), (.slice A242 xs241.length c243), (.slice A33 xs32.length c34), (.int .i64 i244), (.int .i64 i245)] ∧ OwnW 102 el132 el3 w_ w.heap.size F240 A242 c243 xs241 ∧ Blk w_ g4_ 32 #[(.slice A0_0 s0.Code.length c0_0), (.slice A0_1 s0.Warps.length c0_1), (.slice A0_2 s0.Memory.length c0_2), (.int .i64 s0.Waiting), (.int .i64 s0.Phase)] ∧ Blk w_ g5_ 32 #[(.slice none 0 0), (.slice none 0 0), (.slice none 0 0), (.int .i64 0), (.int .i64 0)] ∧ Own el76 w_ w.heap.size A26 c27 xs25 ∧ Own el3 w_ w.heap.size A33 c34 xs32 ∧ Dis (InW A242 F240) (InB A33), ⟨m326, 0, xs29, i35, i36, A30, c31, F28, rfl, hJ325, hB, O14, O16, O4, O5, O15, O17, N16_17⟩, ?_⟩
    rintro m246 _ w250 ⟨i239, xs241, i244, i245, A242, c243, F240, rfl, hJ327, hB, O14, O44, O4, O5, O15, O17, N44_17⟩
    have H := hS248 m246 _ hJ327
    clear hS248 hJ327
    dsimp only at H ⊢
    refine bcase_mk (fun hc323 => ?_) (fun hc323 => ?_)
    · have H := (bcase_iff.1 H).1 hc323
      obtain ⟨⟨h0_254, h1_255⟩, H⟩ := H
      obtain ⟨a252, ha253, A259, c260, A261, c262, f256, f257, f258, R263, hle265, R264, hle266⟩ := RowW.at R0_1 h0_254 h1_255
      refine ⟨h0_254, h1_255, a252, ha253, ?_⟩
      refine ⟨_, (Ext.cell hB f256), ?_⟩
      refine ⟨_, _, _, (Ext.cell hB f257), ?_⟩
      refine ⟨_, _, _, (Ext.cell hB f258), ?_⟩
      refine newBlk (fun g47_ w267 L47 P47 e268 => ?_)
      have N4_47 := O4.ne L47
      have N5_47 := O5.ne L47
      have N14_47 := O14.ne L47
      have N15_47 := O15.apart_new L47
      have N17_47 := O17.apart_new L47
      have N44_47 := O44.dis_newbox L47
      have O4 := O4.ext e268
      have O5 := O5.ext e268
      have O14 := O14.ext e268
      have O15 := O15.ext e268
      have O17 := O17.ext e268
      have O44 := O44.ext e268
      have O47 := P47
      have L47 := Nat.le_trans hB.size L47
      have hB := ethen hB e268
      refine stBlk O47 (o := 0) (cs' := #[(.int .i64 ((rd s0.Warps i239).Number)), (.slice A259 ((rd s0.Warps i239).Frames.length) c260), (.slice A261 ((rd s0.Warps i239).Regs.length) c262)]) rfl rfl (Nat.le_of_ble_eq_true rfl) rfl (fun w269 P47 e270 => ?_)
      have O4_ := O4.chg e270 N4_47
      have O5_ := O5.chg e270 N5_47
      have O14_ := O14.chg e270 N14_47
      have O15_ := O15.chg e270 N15_47
      have O17_ := O17.chg e270 N17_47
      have O44_ := O44.chg e270 N44_47
      have O4 := O4_
      have O5 := O5_
      have O14 := O14_
      have O15 := O15_
      have O17 := O17_
      have O44 := O44_
      have hB := echg hB e270 L47
      have O47 := P47
      refine ⟨(InB A242), ?_⟩
      refine ⟨_, _, _, ⟨(notM1 (fun h_ => (OwnW.dis_blk O44 O14 (by decide) (by decide) (by decide)) (Or.inl h_)) (by first | rfl | (simp only [blk_add]))), (O14.at 1 rfl rfl)⟩, ?_⟩
      refine ⟨_, ⟨(notM1 (fun h_ => N44_47 (Or.inl h_)) (by first | rfl | (simp only [blk_add]))), (O47.at 0 rfl rfl)⟩, ?_⟩
      refine ⟨_, _, _, ⟨(notM1 (fun h_ => N44_47 (Or.inl h_)) (by first | rfl | (simp only [blk_add]))), (O47.at 1 rfl rfl)⟩, ?_⟩
      refine ⟨_, _, _, ⟨(notM1 (fun h_ => N44_47 (Or.inl h_)) (by first | rfl | (simp only [blk_add]))), (O47.at 2 rfl rfl)⟩, ?_⟩
      have hS271 := Chg.refl (InB A242) w269
      have O4 := O4.ext (Ext.drew _)
      have O5 := O5.ext (Ext.drew _)
      have O14 := O14.ext (Ext.drew _)
      have O15 := O15.ext (Ext.drew _)
      have O17 := O17.ext (Ext.drew _)
      have O44 := O44.ext (Ext.drew _)
      have O47 := O47.ext (Ext.drew _)
      have hB := ethen hB (Ext.drew _)
      have hS271 := hS271.then (Ext.drew _)
      obtain ⟨hp296, H⟩ := H
      obtain ⟨r294, hr295⟩ : ∃ r_, r_ = M.impl_copyWarp (rd s0.Warps i239) := ⟨_, rfl⟩
      have H := H r294 hr295
      refine (cllArgs (by first | (simp only [List.length_set]; done) | (simp; done)) (impl_copyWarp.con hp296 hr295 (R263.ext hB) hle265 (R264.ext hB) hle266)).mono ?_
      rintro _ w297 ⟨A299, c300, A301, c302, rfl, P51, P52, e298⟩
      have N51_4 := P51.apart_old O4.lt
      have N51_5 := P51.apart_old O5.lt
      have N51_14 := P51.apart_old O14.lt
      have N15_51 := Own.apart2_new O15 P51 (Nat.le_refl _)
      have N17_51 := Own.apart2_new O17 P51 (Nat.le_refl _)
      have N44_51 := O44.dis_new P51 (Nat.le_refl _)
      have N51_47 := P51.apart_old O47.lt
      have N52_4 := P52.apart_old O4.lt
      have N52_5 := P52.apart_old O5.lt
      have N52_14 := P52.apart_old O14.lt
      have N15_52 := Own.apart2_new O15 P52 (Nat.le_refl _)
      have N17_52 := Own.apart2_new O17 P52 (Nat.le_refl _)
      have N44_52 := O44.dis_new P52 (Nat.le_refl _)
      have N52_47 := P52.apart_old O47.lt
      have O4 := O4.ext e298
      have O5 := O5.ext e298
      have O14 := O14.ext e298
      have O15 := O15.ext e298
      have O17 := O17.ext e298
      have O44 := O44.ext e298
      have O47 := O47.ext e298
      have LB51 := (P51.mono hS271.size).low
      have LB52 := (P52.mono hS271.size).low
      have O51 := P51.mono hB.size
      have O52 := P52.mono hB.size
      have hB := ethen hB e298
      have hS271 := hS271.then e298
      refine ⟨r294.Number, trivial, ?_⟩
      refine ⟨A299, r294.Frames.length, c300, trivial, ?_⟩
      refine ⟨A301, r294.Regs.length, c302, trivial, ?_⟩
      refine ⟨rfl, ?_⟩
      refine ⟨sameBut_chg hS271, ?_⟩
      refine buildOwn (elH 102) ([⟨r294, A299, c300, A301, c302⟩] : List HW) (fun _ => by kernel_rfl) rfl (fun A303 w304 P53 e305 => ?_)
      have Q53 : OwnW 102 el132 el3 _ _ _ _ _ _ := OwnW.one (P53.mono hB.size) (O51.ext e305) (O52.ext e305)
      have N53_17 : Dis (InW A303 (fun g => InB A299 g ∨ InB A301 g)) (InB A33) := fun g h_ hx_ => h_.elim (fun h_ => (Own.apart2_new O17 P53 (Nat.le_refl _)).inb g hx_ h_) (fun h_ => h_.elim (fun h_ => ((N17_51).symm).inb g h_ hx_) (fun h_ => ((N17_52).symm).inb g h_ hx_))
      have N53_44 : Dis (InW A303 (fun g => InB A299 g ∨ InB A301 g)) (InW A242 F240) := fun g h_ hx_ => h_.elim (fun h_ => O44.dis_new P53 (Nat.le_refl _) g hx_ h_) (fun h_ => h_.elim (fun h_ => N44_51 g hx_ h_) (fun h_ => N44_52 g hx_ h_))
      have N53_47 : ¬ InW A303 (fun g => InB A299 g ∨ InB A301 g) g47_ := fun h_ => h_.elim (fun h_ => P53.apart_old O47.lt |>.inb h_) (fun h_ => h_.elim (N51_47).inb (N52_47).inb)
      have O4 := O4.ext e305
      have O5 := O5.ext e305
      have O14 := O14.ext e305
      have O15 := O15.ext e305
      have O17 := O17.ext e305
      have O44 := O44.ext e305
      have O47 := O47.ext e305
      have LB53 : ∀ g, InW A303 (fun g => InB A299 g ∨ InB A301 g) g → _ := fun g h_ => h_.elim ((P53.mono hS271.size).low g) (fun h_ => h_.elim (fun h_ => LB51 g h_) (fun h_ => LB52 g h_))
      have O53 := Q53
      have hB := ethen hB e305
      have hS271 := hS271.then e305
      refine ⟨sameBut_chg hS271, ?_⟩
      obtain ⟨hl315, H⟩ := H
      refine appOwnW slt30 slt30.under O44 O53 (N53_44).symm (by decide) (by decide) hB.size rfl (by first | rfl | omega | (simp; done) | (simp; omega)) hl315 (fun A311 c312 w313 P44 e314 => ?_)
      have O4 := O4.app e314 (fun a_ ha_ hb_ => (OwnW.dis_blk O44 O4 (by decide) (by decide) (by decide)) (Or.inl ⟨a_, ha_, hb_⟩))
      have O5 := O5.app e314 (fun a_ ha_ hb_ => (OwnW.dis_blk O44 O5 (by decide) (by decide) (by decide)) (Or.inl ⟨a_, ha_, hb_⟩))
      have O14 := O14.app e314 (fun a_ ha_ hb_ => (OwnW.dis_blk O44 O14 (by decide) (by decide) (by decide)) (Or.inl ⟨a_, ha_, hb_⟩))
      have O15 := O15.app e314 (fun a_ b_ ha_ hb_ hab_ => (OwnW.dis_type O44 O15 (by decide) (by decide) (by decide)) _ (Or.inl ⟨b_, hb_, rfl⟩) ⟨a_, ha_, hab_⟩)
      have N44_17_ := dis_app N44_17 N53_17 e314 O17
      have O17 := O17.app e314 (fun a_ b_ ha_ hb_ hab_ => N44_17 _ (Or.inl ⟨b_, hb_, rfl⟩) ⟨a_, ha_, hab_⟩)
      have N44_17 := N44_17_
      have N44_47_ := disb_app N44_47 N53_47 e314 O47
      have O47 := O47.app e314 (fun a_ ha_ hb_ => N44_47 (Or.inl ⟨a_, ha_, hb_⟩))
      have N44_47 := N44_47_
      have hsz44_ := hS271.size
      have hS271 := hS271.app e314 (fun g h_ => (Or.inr h_))
      have hB := eappW hB e314 O44
      have O44 := P44
      refine ⟨sameBut_chg hS271, ?_⟩
      refine stBlk O14 (o := 1) (cs' := #[(.slice A26 xs25.length c27), (.slice A311 (((xs241 ++ ([r294] : List D.Warp))).length) c312), (.slice A33 xs32.length c34), (.int .i64 i244), (.int .i64 i245)]) rfl rfl (Nat.le_of_ble_eq_true rfl) rfl (fun w316 P14 e317 => ?_)
      have O4_ := O4.chg e317 N4_14
      have O5_ := O5.chg e317 N5_14
      have O15_ := O15.chg e317 (O15.apart_type O14 (by decide))
      have O17_ := O17.chg e317 (O17.apart_type O14 (by decide))
      have O44_ := O44.chg e317 (OwnW.dis_blk O44 O14 (by decide) (by decide) (by decide))
      have O47_ := O47.chg e317 (N14_47).symm
      have O4 := O4_
      have O5 := O5_
      have O15 := O15_
      have O17 := O17_
      have O44 := O44_
      have O47 := O47_
      have hB := echg hB e317 L14
      have O14 := P14
      obtain ⟨m318, hm319, hJ320⟩ := H
      exact ⟨m318, hm319, (IntKind.wrap .i64 (i239 + 1)), (xs241 ++ ([r294] : List D.Warp)), i244, i245, A311, c312, (fun g => F240 g ∨ (fun g => InB A299 g ∨ InB A301 g) g), rfl, hJ320, hB, O14, O44, O4, O5, O15, O17, N44_17⟩
    · have H := (bcase_iff.1 H).2 hc323
      refine ⟨_, _, _, (O14.at 0 rfl rfl), ?_⟩
      refine ⟨_, _, _, (O14.at 1 rfl rfl), ?_⟩
      refine ⟨_, _, _, (O14.at 2 rfl rfl), ?_⟩
      refine ⟨_, (O14.at 3 rfl rfl), ?_⟩
      refine ⟨_, (O14.at 4 rfl rfl), ?_⟩
      refine stBlk O5 (o := 0) (cs' := #[(.slice A26 xs25.length c27), (.slice A242 xs241.length c243), (.slice A33 xs32.length c34), (.int .i64 i244), (.int .i64 i245)]) rfl rfl (Nat.le_of_ble_eq_true rfl) rfl (fun w321 P5 e322 => ?_)
      have O4_ := O4.chg e322 N4_5
      have O14_ := O14.chg e322 (N5_14).symm
      have O15_ := O15.chg e322 (O15.apart_type O5 (by decide))
      have O17_ := O17.chg e322 (O17.apart_type O5 (by decide))
      have O44_ := O44.chg e322 (OwnW.dis_blk O44 O5 (by decide) (by decide) (by decide))
      have O4 := O4_
      have O14 := O14_
      have O15 := O15_
      have O17 := O17_
      have O44 := O44_
      have hB := echg hB e322 L5
      have O5 := P5
      refine ⟨_, _, _, (O5.at 0 rfl rfl), ?_⟩
      refine ⟨_, _, _, (O5.at 1 rfl rfl), ?_⟩
      refine ⟨_, _, _, (O5.at 2 rfl rfl), ?_⟩
      refine ⟨_, (O5.at 3 rfl rfl), ?_⟩
      refine ⟨_, (O5.at 4 rfl rfl), ?_⟩
      obtain rfl := hr.trans H.symm
      exact ⟨A26, c27, A242, c243, F240, A33, c34, rfl, O15, O44, O17, N44_17, hB⟩

def spec_WithMemory.vc (A0_0 : Option Addr) (n0_0 : Nat) (c0_0 : Nat) (A0_1 : Option Addr) (n0_1 : Nat) (c0_1 : Nat) (A0_2 : Option Addr) (n0_2 : Nat) (c0_2 : Nat) (x0_3 : Int) (x0_4 : Int) (A1 : Option Addr) (n1 : Nat) (c1 : Nat) (w : World) (K : Value → World → Prop) : Prop :=
  newK w (.cells #[(.slice A0_0 n0_0 c0_0), (.slice A0_1 n0_1 c0_1), (.slice A0_2 n0_2 c0_2), (.int .i64 x0_3), (.int .i64 x0_4)] 32) fun g21 w22 => newK w22 (.cells #[(.slice none 0 0), (.slice none 0 0), (.slice none 0 0), (.int .i64 0), (.int .i64 0)] 32) fun g23 w24 => ∃ (A25 : Option Addr) (n26 : Nat) (c27 : Nat), w24.cell? ((⟨g21, 0, none⟩ : Addr).add 0) = some (.slice A25 n26 c27) ∧ ∃ (A28 : Option Addr) (n29 : Nat) (c30 : Nat), w24.cell? ((⟨g21, 0, none⟩ : Addr).add 1) = some (.slice A28 n29 c30) ∧ ∃ (A31 : Option Addr) (n32 : Nat) (c33 : Nat), w24.cell? ((⟨g21, 0, none⟩ : Addr).add 2) = some (.slice A31 n32 c33) ∧ ∃ (n34 : Int), w24.cell? ((⟨g21, 0, none⟩ : Addr).add 3) = some (.int .i64 n34) ∧ ∃ (n35 : Int), w24.cell? ((⟨g21, 0, none⟩ : Addr).add 4) = some (.int .i64 n35) ∧ Cll Try.prog 62 #[(.agg #[(.slice A25 n26 c27), (.slice A28 n29 c30), (.slice A31 n32 c33), (.int .i64 n34), (.int .i64 n35)])] w24 fun v36 w37 => (∃ (A38 : Option Addr) (n39 : Nat) (c40 : Nat), True ∧ ∃ (A41 : Option Addr) (n42 : Nat) (c43 : Nat), True ∧ ∃ (A44 : Option Addr) (n45 : Nat) (c46 : Nat), True ∧ ∃ (n47 : Int), True ∧ ∃ (n48 : Int), True ∧ v36 = (.agg #[(.slice A38 n39 c40), (.slice A41 n42 c43), (.slice A44 n45 c46), (.int .i64 n47), (.int .i64 n48)]) ∧ newK w37 (.cells #[(.slice none 0 0), (.slice none 0 0), (.slice none 0 0), (.int .i64 0), (.int .i64 0)] 32) fun g49 w50 => stCells (⟨g49, 0, none⟩ : Addr) [(.slice A38 n39 c40), (.slice A41 n42 c43), (.slice A44 n45 c46), (.int .i64 n47), (.int .i64 n48)] 0 w50 fun w51 => ∃ (A53 : Option Addr) (n54 : Nat) (c55 : Nat), w51.cell? ((⟨g21, 0, none⟩ : Addr).add 0) = some (.slice A53 n54 c55) ∧ ∃ (A56 : Option Addr) (n57 : Nat) (c58 : Nat), w51.cell? ((⟨g21, 0, none⟩ : Addr).add 1) = some (.slice A56 n57 c58) ∧ ∃ (A59 : Option Addr) (n60 : Nat) (c61 : Nat), w51.cell? ((⟨g21, 0, none⟩ : Addr).add 2) = some (.slice A59 n60 c61) ∧ ∃ (n62 : Int), w51.cell? ((⟨g21, 0, none⟩ : Addr).add 3) = some (.int .i64 n62) ∧ ∃ (n63 : Int), w51.cell? ((⟨g21, 0, none⟩ : Addr).add 4) = some (.int .i64 n63) ∧ Cll Try.prog 54 #[(.agg #[(.slice A53 n54 c55), (.slice A56 n57 c58), (.slice A59 n60 c61), (.int .i64 n62), (.int .i64 n63)])] w51 fun v64 w65 => (∃ (b66 : Bool), v64 = (.bool b66) ∧ bcase (!b66) (∃ (A67 : Option Addr) (n68 : Nat) (c69 : Nat), w65.cell? ((⟨g49, 0, none⟩ : Addr).add 0) = some (.slice A67 n68 c69) ∧ ∃ (A70 : Option Addr) (n71 : Nat) (c72 : Nat), w65.cell? ((⟨g49, 0, none⟩ : Addr).add 1) = some (.slice A70 n71 c72) ∧ ∃ (A73 : Option Addr) (n74 : Nat) (c75 : Nat), w65.cell? ((⟨g49, 0, none⟩ : Addr).add 2) = some (.slice A73 n74 c75) ∧ ∃ (n76 : Int), w65.cell? ((⟨g49, 0, none⟩ : Addr).add 3) = some (.int .i64 n76) ∧ ∃ (n77 : Int), w65.cell? ((⟨g49, 0, none⟩ : Addr).add 4) = some (.int .i64 n77) ∧ stCells (⟨g23, 0, none⟩ : Addr) [(.slice A67 n68 c69), (.slice A70 n71 c72), (.slice A73 n74 c75), (.int .i64 n76), (.int .i64 n77)] 0 w65 fun w78 => ∃ (A79 : Option Addr) (n80 : Nat) (c81 : Nat), w78.cell? ((⟨g23, 0, none⟩ : Addr).add 0) = some (.slice A79 n80 c81) ∧ ∃ (A82 : Option Addr) (n83 : Nat) (c84 : Nat), w78.cell? ((⟨g23, 0, none⟩ : Addr).add 1) = some (.slice A82 n83 c84) ∧ ∃ (A85 : Option Addr) (n86 : Nat) (c87 : Nat), w78.cell? ((⟨g23, 0, none⟩ : Addr).add 2) = some (.slice A85 n86 c87) ∧ ∃ (n88 : Int), w78.cell? ((⟨g23, 0, none⟩ : Addr).add 3) = some (.int .i64 n88) ∧ ∃ (n89 : Int), w78.cell? ((⟨g23, 0, none⟩ : Addr).add 4) = some (.int .i64 n89) ∧ K (.tuple #[(.agg #[(.slice A79 n80 c81), (.slice A82 n83 c84), (.slice A85 n86 c87), (.int .i64 n88), (.int .i64 n89)]), (.bool false)]) w78) (bcase (((n1 : Nat) : Int) != 32) (∃ (A90 : Option Addr) (n91 : Nat) (c92 : Nat), w65.cell? ((⟨g49, 0, none⟩ : Addr).add 0) = some (.slice A90 n91 c92) ∧ ∃ (A93 : Option Addr) (n94 : Nat) (c95 : Nat), w65.cell? ((⟨g49, 0, none⟩ : Addr).add 1) = some (.slice A93 n94 c95) ∧ ∃ (A96 : Option Addr) (n97 : Nat) (c98 : Nat), w65.cell? ((⟨g49, 0, none⟩ : Addr).add 2) = some (.slice A96 n97 c98) ∧ ∃ (n99 : Int), w65.cell? ((⟨g49, 0, none⟩ : Addr).add 3) = some (.int .i64 n99) ∧ ∃ (n100 : Int), w65.cell? ((⟨g49, 0, none⟩ : Addr).add 4) = some (.int .i64 n100) ∧ stCells (⟨g23, 0, none⟩ : Addr) [(.slice A90 n91 c92), (.slice A93 n94 c95), (.slice A96 n97 c98), (.int .i64 n99), (.int .i64 n100)] 0 w65 fun w101 => ∃ (A102 : Option Addr) (n103 : Nat) (c104 : Nat), w101.cell? ((⟨g23, 0, none⟩ : Addr).add 0) = some (.slice A102 n103 c104) ∧ ∃ (A105 : Option Addr) (n106 : Nat) (c107 : Nat), w101.cell? ((⟨g23, 0, none⟩ : Addr).add 1) = some (.slice A105 n106 c107) ∧ ∃ (A108 : Option Addr) (n109 : Nat) (c110 : Nat), w101.cell? ((⟨g23, 0, none⟩ : Addr).add 2) = some (.slice A108 n109 c110) ∧ ∃ (n111 : Int), w101.cell? ((⟨g23, 0, none⟩ : Addr).add 3) = some (.int .i64 n111) ∧ ∃ (n112 : Int), w101.cell? ((⟨g23, 0, none⟩ : Addr).add 4) = some (.int .i64 n112) ∧ K (.tuple #[(.agg #[(.slice A102 n103 c104), (.slice A105 n106 c107), (.slice A108 n109 c110), (.int .i64 n111), (.int .i64 n112)]), (.bool false)]) w101) (Cll Try.prog 63 #[(.slice A1 n1 c1)] w65 fun v113 w114 => (∃ (b115 : Bool), v113 = (.bool b115) ∧ bcase (!b115) (∃ (A116 : Option Addr) (n117 : Nat) (c118 : Nat), w114.cell? ((⟨g49, 0, none⟩ : Addr).add 0) = some (.slice A116 n117 c118) ∧ ∃ (A119 : Option Addr) (n120 : Nat) (c121 : Nat), w114.cell? ((⟨g49, 0, none⟩ : Addr).add 1) = some (.slice A119 n120 c121) ∧ ∃ (A122 : Option Addr) (n123 : Nat) (c124 : Nat), w114.cell? ((⟨g49, 0, none⟩ : Addr).add 2) = some (.slice A122 n123 c124) ∧ ∃ (n125 : Int), w114.cell? ((⟨g49, 0, none⟩ : Addr).add 3) = some (.int .i64 n125) ∧ ∃ (n126 : Int), w114.cell? ((⟨g49, 0, none⟩ : Addr).add 4) = some (.int .i64 n126) ∧ stCells (⟨g23, 0, none⟩ : Addr) [(.slice A116 n117 c118), (.slice A119 n120 c121), (.slice A122 n123 c124), (.int .i64 n125), (.int .i64 n126)] 0 w114 fun w127 => ∃ (A128 : Option Addr) (n129 : Nat) (c130 : Nat), w127.cell? ((⟨g23, 0, none⟩ : Addr).add 0) = some (.slice A128 n129 c130) ∧ ∃ (A131 : Option Addr) (n132 : Nat) (c133 : Nat), w127.cell? ((⟨g23, 0, none⟩ : Addr).add 1) = some (.slice A131 n132 c133) ∧ ∃ (A134 : Option Addr) (n135 : Nat) (c136 : Nat), w127.cell? ((⟨g23, 0, none⟩ : Addr).add 2) = some (.slice A134 n135 c136) ∧ ∃ (n137 : Int), w127.cell? ((⟨g23, 0, none⟩ : Addr).add 3) = some (.int .i64 n137) ∧ ∃ (n138 : Int), w127.cell? ((⟨g23, 0, none⟩ : Addr).add 4) = some (.int .i64 n138) ∧ K (.tuple #[(.agg #[(.slice A128 n129 c130), (.slice A131 n132 c133), (.slice A134 n135 c136), (.int .i64 n137), (.int .i64 n138)]), (.bool false)]) w127) (Run Try.prog (Instr.buildSlice 24 0 #[]) w114 fun v139 w140 => ∃ (A141 : Option Addr) (n142 c143 : Nat), v139 = .slice A141 n142 c143 ∧ Run Try.prog (Builtin.append_ #[24, 24] 24 #[(.slice A141 n142 c143), (.slice A1 n1 c1)]) w140 fun v144 w145 => ∃ (A146 : Option Addr) (n147 c148 : Nat), v144 = .slice A146 n147 c148 ∧ stCells ((⟨g49, 0, none⟩ : Addr).add 2) [(.slice A146 n147 c148)] 0 w145 fun w149 => ∃ (A150 : Option Addr) (n151 : Nat) (c152 : Nat), w149.cell? ((⟨g49, 0, none⟩ : Addr).add 0) = some (.slice A150 n151 c152) ∧ ∃ (A153 : Option Addr) (n154 : Nat) (c155 : Nat), w149.cell? ((⟨g49, 0, none⟩ : Addr).add 1) = some (.slice A153 n154 c155) ∧ ∃ (A156 : Option Addr) (n157 : Nat) (c158 : Nat), w149.cell? ((⟨g49, 0, none⟩ : Addr).add 2) = some (.slice A156 n157 c158) ∧ ∃ (n159 : Int), w149.cell? ((⟨g49, 0, none⟩ : Addr).add 3) = some (.int .i64 n159) ∧ ∃ (n160 : Int), w149.cell? ((⟨g49, 0, none⟩ : Addr).add 4) = some (.int .i64 n160) ∧ stCells (⟨g23, 0, none⟩ : Addr) [(.slice A150 n151 c152), (.slice A153 n154 c155), (.slice A156 n157 c158), (.int .i64 n159), (.int .i64 n160)] 0 w149 fun w161 => ∃ (A162 : Option Addr) (n163 : Nat) (c164 : Nat), w161.cell? ((⟨g23, 0, none⟩ : Addr).add 0) = some (.slice A162 n163 c164) ∧ ∃ (A165 : Option Addr) (n166 : Nat) (c167 : Nat), w161.cell? ((⟨g23, 0, none⟩ : Addr).add 1) = some (.slice A165 n166 c167) ∧ ∃ (A168 : Option Addr) (n169 : Nat) (c170 : Nat), w161.cell? ((⟨g23, 0, none⟩ : Addr).add 2) = some (.slice A168 n169 c170) ∧ ∃ (n171 : Int), w161.cell? ((⟨g23, 0, none⟩ : Addr).add 3) = some (.int .i64 n171) ∧ ∃ (n172 : Int), w161.cell? ((⟨g23, 0, none⟩ : Addr).add 4) = some (.int .i64 n172) ∧ K (.tuple #[(.agg #[(.slice A162 n163 c164), (.slice A165 n166 c167), (.slice A168 n169 c170), (.int .i64 n171), (.int .i64 n172)]), (.bool true)]) w161))))))

def spec_WithMemory.ann : Ann := (.seq .l (.seq .l (.seq (.seq .l (.two (.seq .l .l) .l)) (.seq .l (.seq .l .l)))))

theorem spec_WithMemory.vc_eq (A0_0 : Option Addr) (n0_0 : Nat) (c0_0 : Nat) (A0_1 : Option Addr) (n0_1 : Nat) (c0_1 : Nat) (A0_2 : Option Addr) (n0_2 : Nat) (c0_2 : Nat) (x0_3 : Int) (x0_4 : Int) (A1 : Option Addr) (n1 : Nat) (c1 : Nat) (w : World) (K : Value → World → Prop) : vcF Try.prog Try.f22 spec_WithMemory.ann [(.agg #[(.slice A0_0 n0_0 c0_0), (.slice A0_1 n0_1 c0_1), (.slice A0_2 n0_2 c0_2), (.int .i64 x0_3), (.int .i64 x0_4)]), (.slice A1 n1 c1)] K w = spec_WithMemory.vc A0_0 n0_0 c0_0 A0_1 n0_1 c0_1 A0_2 n0_2 c0_2 x0_3 x0_4 A1 n1 c1 w K := by kernel_rfl

theorem spec_WithMemory.start {A0_0 : Option Addr} {n0_0 : Nat} {c0_0 : Nat} {A0_1 : Option Addr} {n0_1 : Nat} {c0_1 : Nat} {A0_2 : Option Addr} {n0_2 : Nat} {c0_2 : Nat} {x0_3 : Int} {x0_4 : Int} {A1 : Option Addr} {n1 : Nat} {c1 : Nat} {w : World} {K : Value → World → Prop} (h : spec_WithMemory.vc A0_0 n0_0 c0_0 A0_1 n0_1 c0_1 A0_2 n0_2 c0_2 x0_3 x0_4 A1 n1 c1 w K) : Cll Try.prog 22 #[(.agg #[(.slice A0_0 n0_0 c0_0), (.slice A0_1 n0_1 c0_1), (.slice A0_2 n0_2 c0_2), (.int .i64 x0_3), (.int .i64 x0_4)]), (.slice A1 n1 c1)] w K :=
  vcF_sound mixed (fn := Try.f22) (by kernel_rfl) (by kernel_rfl) (an := spec_WithMemory.ann) (args := [(.agg #[(.slice A0_0 n0_0 c0_0), (.slice A0_1 n0_1 c0_1), (.slice A0_2 n0_2 c0_2), (.int .i64 x0_3), (.int .i64 x0_4)]), (.slice A1 n1 c1)]) (by rw [spec_WithMemory.vc_eq]; exact h)

theorem spec_WithMemory.con {s0 : D.Block} {A0_0 : Option Addr} {c0_0 : Nat} {A0_1 : Option Addr} {c0_1 : Nat} {A0_2 : Option Addr} {c0_2 : Nat} {xs1 : List Int} {A1 : Option Addr} {c1 : Nat} {r : D.Block × Bool} {w : World} (hp : M.spec_WithMemory_pre s0 xs1) (hr : r = M.spec_WithMemory s0 xs1) (R0_0 : Row el76 w A0_0 s0.Code) (hc0_0 : s0.Code.length ≤ c0_0) (R0_1 : RowW 102 el132 el3 w A0_1 s0.Warps) (hc0_1 : s0.Warps.length ≤ c0_1) (R0_2 : Row el3 w A0_2 s0.Memory) (hc0_2 : s0.Memory.length ≤ c0_2) (R1 : Row el3 w A1 xs1) (hc1 : xs1.length ≤ c1) :
    Cll Try.prog 22 #[(.agg #[(.slice A0_0 s0.Code.length c0_0), (.slice A0_1 s0.Warps.length c0_1), (.slice A0_2 s0.Memory.length c0_2), (.int .i64 s0.Waiting), (.int .i64 s0.Phase)]), (.slice A1 xs1.length c1)] w (fun v_ w_ => ∃ (A0_ : Option Addr) (c0_ : Nat) (A1_ : Option Addr) (c1_ : Nat) (F1_ : Nat → Prop) (A2_ : Option Addr) (c2_ : Nat), v_ = (.tuple #[(.agg #[(.slice A0_ r.1.Code.length c0_), (.slice A1_ r.1.Warps.length c1_), (.slice A2_ r.1.Memory.length c2_), (.int .i64 r.1.Waiting), (.int .i64 r.1.Phase)]), (.bool r.2)]) ∧ Own el76 w_ w.heap.size A0_ c0_ r.1.Code ∧ OwnW 102 el132 el3 w_ w.heap.size F1_ A1_ c1_ r.1.Warps ∧ Own el3 w_ w.heap.size A2_ c2_ r.1.Memory ∧ Dis (InW A1_ F1_) (InB A2_) ∧ Ext w w_) := by
  have H := wp.spec_WithMemory.math s0 xs1 hp
  have hB := Ext.refl w
  refine spec_WithMemory.start ?_
  unfold spec_WithMemory.vc
  unfold wp.spec_WithMemory at H
  refine newBlk (fun g5_ w21 L5 P5 e22 => ?_)
  have O5 := P5
  have L5 := Nat.le_trans hB.size L5
  have hB := ethen hB e22
  refine newBlk (fun g6_ w23 L6 P6 e24 => ?_)
  have N5_6 := O5.ne L6
  have O5 := O5.ext e24
  have O6 := P6
  have L6 := Nat.le_trans hB.size L6
  have hB := ethen hB e24
  refine ⟨_, _, _, (O5.at 0 rfl rfl), ?_⟩
  refine ⟨_, _, _, (O5.at 1 rfl rfl), ?_⟩
  refine ⟨_, _, _, (O5.at 2 rfl rfl), ?_⟩
  refine ⟨_, (O5.at 3 rfl rfl), ?_⟩
  refine ⟨_, (O5.at 4 rfl rfl), ?_⟩
  obtain ⟨hp27, H⟩ := H
  obtain ⟨r25, hr26⟩ : ∃ r_, r_ = M.spec_l29Copy s0 := ⟨_, rfl⟩
  have H := H r25 hr26
  refine (spec_l29Copy.con hp27 hr26 (R0_0.ext hB) hc0_0 (R0_1.ext hB) hc0_1 (R0_2.ext hB) hc0_2).mono ?_
  rintro _ w28 ⟨A30, c31, A32, c33, F36, A34, c35, rfl, P7, P8, P9, N8_9, e29⟩
  have N7_5 := P7.apart_old O5.lt
  have N7_6 := P7.apart_old O6.lt
  have N8_5 := P8.new_disbox O5 (Nat.le_refl _)
  have N8_6 := P8.new_disbox O6 (Nat.le_refl _)
  have N9_5 := P9.apart_old O5.lt
  have N9_6 := P9.apart_old O6.lt
  have O5 := O5.ext e29
  have O6 := O6.ext e29
  have O7 := P7.mono hB.size
  have O8 := P8.mono hB.size
  have O9 := P9.mono hB.size
  have hB := ethen hB e29
  refine ⟨A30, r25.Code.length, c31, trivial, ?_⟩
  refine ⟨A32, r25.Warps.length, c33, trivial, ?_⟩
  refine ⟨A34, r25.Memory.length, c35, trivial, ?_⟩
  refine ⟨r25.Waiting, trivial, ?_⟩
  refine ⟨r25.Phase, trivial, ?_⟩
  refine ⟨rfl, ?_⟩
  refine newBlk (fun g10_ w37 L10 P10 e38 => ?_)
  have N5_10 := O5.ne L10
  have N6_10 := O6.ne L10
  have N7_10 := O7.apart_new L10
  have N8_10 := O8.dis_newbox L10
  have N9_10 := O9.apart_new L10
  have O5 := O5.ext e38
  have O6 := O6.ext e38
  have O7 := O7.ext e38
  have O8 := O8.ext e38
  have O9 := O9.ext e38
  have O10 := P10
  have L10 := Nat.le_trans hB.size L10
  have hB := ethen hB e38
  refine stBlk O10 (o := 0) (cs' := #[(.slice A30 r25.Code.length c31), (.slice A32 r25.Warps.length c33), (.slice A34 r25.Memory.length c35), (.int .i64 r25.Waiting), (.int .i64 r25.Phase)]) rfl rfl (Nat.le_of_ble_eq_true rfl) rfl (fun w39 P10 e40 => ?_)
  have O5_ := O5.chg e40 N5_10
  have O6_ := O6.chg e40 N6_10
  have O7_ := O7.chg e40 N7_10
  have O8_ := O8.chg e40 N8_10
  have O9_ := O9.chg e40 N9_10
  have O5 := O5_
  have O6 := O6_
  have O7 := O7_
  have O8 := O8_
  have O9 := O9_
  have hB := echg hB e40 L10
  have O10 := P10
  refine ⟨_, _, _, (O5.at 0 rfl rfl), ?_⟩
  refine ⟨_, _, _, (O5.at 1 rfl rfl), ?_⟩
  refine ⟨_, _, _, (O5.at 2 rfl rfl), ?_⟩
  refine ⟨_, (O5.at 3 rfl rfl), ?_⟩
  refine ⟨_, (O5.at 4 rfl rfl), ?_⟩
  obtain ⟨hp43, H⟩ := H
  obtain ⟨r41, hr42⟩ : ∃ r_, r_ = M.spec_BlockOk s0 := ⟨_, rfl⟩
  have H := H r41 hr42
  refine (spec_BlockOk.con hp43 hr42 (R0_0.ext hB) hc0_0 (R0_1.ext hB) hc0_1 (R0_2.ext hB) hc0_2).mono ?_
  rintro _ w44 ⟨rfl, e45⟩
  have O5 := O5.ext e45
  have O6 := O6.ext e45
  have O7 := O7.ext e45
  have O8 := O8.ext e45
  have O9 := O9.ext e45
  have O10 := O10.ext e45
  have hB := ethen hB e45
  refine ⟨r41, rfl, ?_⟩
  refine bcase_mk (fun hc71 => ?_) (fun hc71 => ?_)
  · have H := (bcase_iff.1 H).1 hc71
    refine ⟨_, _, _, (O10.at 0 rfl rfl), ?_⟩
    refine ⟨_, _, _, (O10.at 1 rfl rfl), ?_⟩
    refine ⟨_, _, _, (O10.at 2 rfl rfl), ?_⟩
    refine ⟨_, (O10.at 3 rfl rfl), ?_⟩
    refine ⟨_, (O10.at 4 rfl rfl), ?_⟩
    refine stBlk O6 (o := 0) (cs' := #[(.slice A30 r25.Code.length c31), (.slice A32 r25.Warps.length c33), (.slice A34 r25.Memory.length c35), (.int .i64 r25.Waiting), (.int .i64 r25.Phase)]) rfl rfl (Nat.le_of_ble_eq_true rfl) rfl (fun w46 P6 e47 => ?_)
    have O5_ := O5.chg e47 N5_6
    have O7_ := O7.chg e47 N7_6
    have O8_ := O8.chg e47 N8_6
    have O9_ := O9.chg e47 N9_6
    have O10_ := O10.chg e47 (N6_10).symm
    have O5 := O5_
    have O7 := O7_
    have O8 := O8_
    have O9 := O9_
    have O10 := O10_
    have hB := echg hB e47 L6
    have O6 := P6
    refine ⟨_, _, _, (O6.at 0 rfl rfl), ?_⟩
    refine ⟨_, _, _, (O6.at 1 rfl rfl), ?_⟩
    refine ⟨_, _, _, (O6.at 2 rfl rfl), ?_⟩
    refine ⟨_, (O6.at 3 rfl rfl), ?_⟩
    refine ⟨_, (O6.at 4 rfl rfl), ?_⟩
    obtain rfl := hr.trans H.symm
    exact ⟨A30, c31, A32, c33, F36, A34, c35, rfl, O7, O8, O9, N8_9, hB⟩
  · have H := (bcase_iff.1 H).2 hc71
    refine bcase_mk (fun hc70 => ?_) (fun hc70 => ?_)
    · have H := (bcase_iff.1 H).1 hc70
      refine ⟨_, _, _, (O10.at 0 rfl rfl), ?_⟩
      refine ⟨_, _, _, (O10.at 1 rfl rfl), ?_⟩
      refine ⟨_, _, _, (O10.at 2 rfl rfl), ?_⟩
      refine ⟨_, (O10.at 3 rfl rfl), ?_⟩
      refine ⟨_, (O10.at 4 rfl rfl), ?_⟩
      refine stBlk O6 (o := 0) (cs' := #[(.slice A30 r25.Code.length c31), (.slice A32 r25.Warps.length c33), (.slice A34 r25.Memory.length c35), (.int .i64 r25.Waiting), (.int .i64 r25.Phase)]) rfl rfl (Nat.le_of_ble_eq_true rfl) rfl (fun w48 P6 e49 => ?_)
      have O5_ := O5.chg e49 N5_6
      have O7_ := O7.chg e49 N7_6
      have O8_ := O8.chg e49 N8_6
      have O9_ := O9.chg e49 N9_6
      have O10_ := O10.chg e49 (N6_10).symm
      have O5 := O5_
      have O7 := O7_
      have O8 := O8_
      have O9 := O9_
      have O10 := O10_
      have hB := echg hB e49 L6
      have O6 := P6
      refine ⟨_, _, _, (O6.at 0 rfl rfl), ?_⟩
      refine ⟨_, _, _, (O6.at 1 rfl rfl), ?_⟩
      refine ⟨_, _, _, (O6.at 2 rfl rfl), ?_⟩
      refine ⟨_, (O6.at 3 rfl rfl), ?_⟩
      refine ⟨_, (O6.at 4 rfl rfl), ?_⟩
      obtain rfl := hr.trans H.symm
      exact ⟨A30, c31, A32, c33, F36, A34, c35, rfl, O7, O8, O9, N8_9, hB⟩
    · have H := (bcase_iff.1 H).2 hc70
      obtain ⟨hp52, H⟩ := H
      obtain ⟨r50, hr51⟩ : ∃ r_, r_ = M.spec_AreWords xs1 := ⟨_, rfl⟩
      have H := H r50 hr51
      refine (spec_AreWords.con hp52 hr51 (R1.ext hB) hc1).mono ?_
      rintro _ w53 ⟨rfl, e54⟩
      have O5 := O5.ext e54
      have O6 := O6.ext e54
      have O7 := O7.ext e54
      have O8 := O8.ext e54
      have O9 := O9.ext e54
      have O10 := O10.ext e54
      have hB := ethen hB e54
      refine ⟨r50, rfl, ?_⟩
      refine bcase_mk (fun hc69 => ?_) (fun hc69 => ?_)
      · have H := (bcase_iff.1 H).1 hc69
        refine ⟨_, _, _, (O10.at 0 rfl rfl), ?_⟩
        refine ⟨_, _, _, (O10.at 1 rfl rfl), ?_⟩
        refine ⟨_, _, _, (O10.at 2 rfl rfl), ?_⟩
        refine ⟨_, (O10.at 3 rfl rfl), ?_⟩
        refine ⟨_, (O10.at 4 rfl rfl), ?_⟩
        refine stBlk O6 (o := 0) (cs' := #[(.slice A30 r25.Code.length c31), (.slice A32 r25.Warps.length c33), (.slice A34 r25.Memory.length c35), (.int .i64 r25.Waiting), (.int .i64 r25.Phase)]) rfl rfl (Nat.le_of_ble_eq_true rfl) rfl (fun w55 P6 e56 => ?_)
        have O5_ := O5.chg e56 N5_6
        have O7_ := O7.chg e56 N7_6
        have O8_ := O8.chg e56 N8_6
        have O9_ := O9.chg e56 N9_6
        have O10_ := O10.chg e56 (N6_10).symm
        have O5 := O5_
        have O7 := O7_
        have O8 := O8_
        have O9 := O9_
        have O10 := O10_
        have hB := echg hB e56 L6
        have O6 := P6
        refine ⟨_, _, _, (O6.at 0 rfl rfl), ?_⟩
        refine ⟨_, _, _, (O6.at 1 rfl rfl), ?_⟩
        refine ⟨_, _, _, (O6.at 2 rfl rfl), ?_⟩
        refine ⟨_, (O6.at 3 rfl rfl), ?_⟩
        refine ⟨_, (O6.at 4 rfl rfl), ?_⟩
        obtain rfl := hr.trans H.symm
        exact ⟨A30, c31, A32, c33, F36, A34, c35, rfl, O7, O8, O9, N8_9, hB⟩
      · have H := (bcase_iff.1 H).2 hc69
        refine buildOwn el3 ([] : List Int) (fun _ => by kernel_rfl) rfl (fun A57 w58 P11 e59 => ?_)
        have N11_5 := P11.apart_old O5.lt
        have N11_6 := P11.apart_old O6.lt
        have N7_11 := Own.apart2_new O7 P11 (Nat.le_refl _)
        have N8_11 := O8.dis_new P11 (Nat.le_refl _)
        have N9_11 := Own.apart2_new O9 P11 (Nat.le_refl _)
        have N11_10 := P11.apart_old O10.lt
        have O5 := O5.ext e59
        have O6 := O6.ext e59
        have O7 := O7.ext e59
        have O8 := O8.ext e59
        have O9 := O9.ext e59
        have O10 := O10.ext e59
        have O11 := P11.mono hB.size
        have hB := ethen hB e59
        obtain ⟨hl64, H⟩ := H
        refine appOwn slt24 slt24.under O11 (R1.ext hB) hB.size (by first | rfl | omega | (simp; done) | (simp; omega)) rfl hl64 (fun A60 c61 w62 P11 e63 => ?_)
        have N11_5_ := Apart.app N11_5 e63 O5.lt
        have O5 := O5.app e63 N11_5
        have N11_5 := N11_5_
        have N11_6_ := Apart.app N11_6 e63 O6.lt
        have O6 := O6.app e63 N11_6
        have N11_6 := N11_6_
        have N7_11_ := Apart2.app N7_11 e63 O7
        have O7 := O7.app e63 N7_11
        have N7_11 := N7_11_
        have N8_11_ := OwnW.dis_mv O8 N8_11 e63
        have O8 := O8.app e63 N8_11
        have N8_11 := N8_11_
        have N9_11_ := Apart2.app N9_11 e63 O9
        have O9 := O9.app e63 N9_11
        have N9_11 := N9_11_
        have N11_10_ := Apart.app N11_10 e63 O10.lt
        have O10 := O10.app e63 N11_10
        have N11_10 := N11_10_
        have hB := eapp hB e63 O11
        have O11 := P11
        refine stBlk O10 (o := 2) (cs' := #[(.slice A30 r25.Code.length c31), (.slice A32 r25.Warps.length c33), (.slice A60 (((([] : List Int) ++ xs1)).length) c61), (.int .i64 r25.Waiting), (.int .i64 r25.Phase)]) rfl rfl (Nat.le_of_ble_eq_true rfl) rfl (fun w65 P10 e66 => ?_)
        have O5_ := O5.chg e66 N5_10
        have O6_ := O6.chg e66 N6_10
        have O7_ := O7.chg e66 N7_10
        have O8_ := O8.chg e66 N8_10
        have O9_ := O9.chg e66 N9_10
        have O11_ := O11.chg e66 N11_10
        have O5 := O5_
        have O6 := O6_
        have O7 := O7_
        have O8 := O8_
        have O9 := O9_
        have O11 := O11_
        have hB := echg hB e66 L10
        have O10 := P10
        refine ⟨_, _, _, (O10.at 0 rfl rfl), ?_⟩
        refine ⟨_, _, _, (O10.at 1 rfl rfl), ?_⟩
        refine ⟨_, _, _, (O10.at 2 rfl rfl), ?_⟩
        refine ⟨_, (O10.at 3 rfl rfl), ?_⟩
        refine ⟨_, (O10.at 4 rfl rfl), ?_⟩
        refine stBlk O6 (o := 0) (cs' := #[(.slice A30 r25.Code.length c31), (.slice A32 r25.Warps.length c33), (.slice A60 (((([] : List Int) ++ xs1)).length) c61), (.int .i64 r25.Waiting), (.int .i64 r25.Phase)]) rfl rfl (Nat.le_of_ble_eq_true rfl) rfl (fun w67 P6 e68 => ?_)
        have O5_ := O5.chg e68 N5_6
        have O7_ := O7.chg e68 N7_6
        have O8_ := O8.chg e68 N8_6
        have O9_ := O9.chg e68 N9_6
        have O10_ := O10.chg e68 (N6_10).symm
        have O11_ := O11.chg e68 N11_6
        have O5 := O5_
        have O7 := O7_
        have O8 := O8_
        have O9 := O9_
        have O10 := O10_
        have O11 := O11_
        have hB := echg hB e68 L6
        have O6 := P6
        refine ⟨_, _, _, (O6.at 0 rfl rfl), ?_⟩
        refine ⟨_, _, _, (O6.at 1 rfl rfl), ?_⟩
        refine ⟨_, _, _, (O6.at 2 rfl rfl), ?_⟩
        refine ⟨_, (O6.at 3 rfl rfl), ?_⟩
        refine ⟨_, (O6.at 4 rfl rfl), ?_⟩
        obtain rfl := hr.trans H.symm
        exact ⟨A30, c31, A32, c33, F36, A60, c61, rfl, O7, O8, O11, N8_11, hB⟩

def impl_WithMemory.vc (A0_0 : Option Addr) (n0_0 : Nat) (c0_0 : Nat) (A0_1 : Option Addr) (n0_1 : Nat) (c0_1 : Nat) (A0_2 : Option Addr) (n0_2 : Nat) (c0_2 : Nat) (x0_3 : Int) (x0_4 : Int) (A1 : Option Addr) (n1 : Nat) (c1 : Nat) (w : World) (K : Value → World → Prop) : Prop :=
  newK w (.cells #[(.slice A0_0 n0_0 c0_0), (.slice A0_1 n0_1 c0_1), (.slice A0_2 n0_2 c0_2), (.int .i64 x0_3), (.int .i64 x0_4)] 32) fun g21 w22 => newK w22 (.cells #[(.slice none 0 0), (.slice none 0 0), (.slice none 0 0), (.int .i64 0), (.int .i64 0)] 32) fun g23 w24 => ∃ (A25 : Option Addr) (n26 : Nat) (c27 : Nat), w24.cell? ((⟨g21, 0, none⟩ : Addr).add 0) = some (.slice A25 n26 c27) ∧ ∃ (A28 : Option Addr) (n29 : Nat) (c30 : Nat), w24.cell? ((⟨g21, 0, none⟩ : Addr).add 1) = some (.slice A28 n29 c30) ∧ ∃ (A31 : Option Addr) (n32 : Nat) (c33 : Nat), w24.cell? ((⟨g21, 0, none⟩ : Addr).add 2) = some (.slice A31 n32 c33) ∧ ∃ (n34 : Int), w24.cell? ((⟨g21, 0, none⟩ : Addr).add 3) = some (.int .i64 n34) ∧ ∃ (n35 : Int), w24.cell? ((⟨g21, 0, none⟩ : Addr).add 4) = some (.int .i64 n35) ∧ Cll Try.prog 64 #[(.agg #[(.slice A25 n26 c27), (.slice A28 n29 c30), (.slice A31 n32 c33), (.int .i64 n34), (.int .i64 n35)])] w24 fun v36 w37 => (∃ (A38 : Option Addr) (n39 : Nat) (c40 : Nat), True ∧ ∃ (A41 : Option Addr) (n42 : Nat) (c43 : Nat), True ∧ ∃ (A44 : Option Addr) (n45 : Nat) (c46 : Nat), True ∧ ∃ (n47 : Int), True ∧ ∃ (n48 : Int), True ∧ v36 = (.agg #[(.slice A38 n39 c40), (.slice A41 n42 c43), (.slice A44 n45 c46), (.int .i64 n47), (.int .i64 n48)]) ∧ newK w37 (.cells #[(.slice none 0 0), (.slice none 0 0), (.slice none 0 0), (.int .i64 0), (.int .i64 0)] 32) fun g49 w50 => stCells (⟨g49, 0, none⟩ : Addr) [(.slice A38 n39 c40), (.slice A41 n42 c43), (.slice A44 n45 c46), (.int .i64 n47), (.int .i64 n48)] 0 w50 fun w51 => ∃ (A53 : Option Addr) (n54 : Nat) (c55 : Nat), w51.cell? ((⟨g21, 0, none⟩ : Addr).add 0) = some (.slice A53 n54 c55) ∧ ∃ (A56 : Option Addr) (n57 : Nat) (c58 : Nat), w51.cell? ((⟨g21, 0, none⟩ : Addr).add 1) = some (.slice A56 n57 c58) ∧ ∃ (A59 : Option Addr) (n60 : Nat) (c61 : Nat), w51.cell? ((⟨g21, 0, none⟩ : Addr).add 2) = some (.slice A59 n60 c61) ∧ ∃ (n62 : Int), w51.cell? ((⟨g21, 0, none⟩ : Addr).add 3) = some (.int .i64 n62) ∧ ∃ (n63 : Int), w51.cell? ((⟨g21, 0, none⟩ : Addr).add 4) = some (.int .i64 n63) ∧ Cll Try.prog 56 #[(.agg #[(.slice A53 n54 c55), (.slice A56 n57 c58), (.slice A59 n60 c61), (.int .i64 n62), (.int .i64 n63)])] w51 fun v64 w65 => (∃ (b66 : Bool), v64 = (.bool b66) ∧ bcase (!b66) (∃ (A67 : Option Addr) (n68 : Nat) (c69 : Nat), w65.cell? ((⟨g49, 0, none⟩ : Addr).add 0) = some (.slice A67 n68 c69) ∧ ∃ (A70 : Option Addr) (n71 : Nat) (c72 : Nat), w65.cell? ((⟨g49, 0, none⟩ : Addr).add 1) = some (.slice A70 n71 c72) ∧ ∃ (A73 : Option Addr) (n74 : Nat) (c75 : Nat), w65.cell? ((⟨g49, 0, none⟩ : Addr).add 2) = some (.slice A73 n74 c75) ∧ ∃ (n76 : Int), w65.cell? ((⟨g49, 0, none⟩ : Addr).add 3) = some (.int .i64 n76) ∧ ∃ (n77 : Int), w65.cell? ((⟨g49, 0, none⟩ : Addr).add 4) = some (.int .i64 n77) ∧ stCells (⟨g23, 0, none⟩ : Addr) [(.slice A67 n68 c69), (.slice A70 n71 c72), (.slice A73 n74 c75), (.int .i64 n76), (.int .i64 n77)] 0 w65 fun w78 => ∃ (A79 : Option Addr) (n80 : Nat) (c81 : Nat), w78.cell? ((⟨g23, 0, none⟩ : Addr).add 0) = some (.slice A79 n80 c81) ∧ ∃ (A82 : Option Addr) (n83 : Nat) (c84 : Nat), w78.cell? ((⟨g23, 0, none⟩ : Addr).add 1) = some (.slice A82 n83 c84) ∧ ∃ (A85 : Option Addr) (n86 : Nat) (c87 : Nat), w78.cell? ((⟨g23, 0, none⟩ : Addr).add 2) = some (.slice A85 n86 c87) ∧ ∃ (n88 : Int), w78.cell? ((⟨g23, 0, none⟩ : Addr).add 3) = some (.int .i64 n88) ∧ ∃ (n89 : Int), w78.cell? ((⟨g23, 0, none⟩ : Addr).add 4) = some (.int .i64 n89) ∧ K (.tuple #[(.agg #[(.slice A79 n80 c81), (.slice A82 n83 c84), (.slice A85 n86 c87), (.int .i64 n88), (.int .i64 n89)]), (.bool false)]) w78) (Cll Try.prog 65 #[(.slice A1 n1 c1)] w65 fun v90 w91 => (∃ (b92 : Bool), v90 = (.bool b92) ∧ bcase (!b92) (∃ (A93 : Option Addr) (n94 : Nat) (c95 : Nat), w91.cell? ((⟨g49, 0, none⟩ : Addr).add 0) = some (.slice A93 n94 c95) ∧ ∃ (A96 : Option Addr) (n97 : Nat) (c98 : Nat), w91.cell? ((⟨g49, 0, none⟩ : Addr).add 1) = some (.slice A96 n97 c98) ∧ ∃ (A99 : Option Addr) (n100 : Nat) (c101 : Nat), w91.cell? ((⟨g49, 0, none⟩ : Addr).add 2) = some (.slice A99 n100 c101) ∧ ∃ (n102 : Int), w91.cell? ((⟨g49, 0, none⟩ : Addr).add 3) = some (.int .i64 n102) ∧ ∃ (n103 : Int), w91.cell? ((⟨g49, 0, none⟩ : Addr).add 4) = some (.int .i64 n103) ∧ stCells (⟨g23, 0, none⟩ : Addr) [(.slice A93 n94 c95), (.slice A96 n97 c98), (.slice A99 n100 c101), (.int .i64 n102), (.int .i64 n103)] 0 w91 fun w104 => ∃ (A105 : Option Addr) (n106 : Nat) (c107 : Nat), w104.cell? ((⟨g23, 0, none⟩ : Addr).add 0) = some (.slice A105 n106 c107) ∧ ∃ (A108 : Option Addr) (n109 : Nat) (c110 : Nat), w104.cell? ((⟨g23, 0, none⟩ : Addr).add 1) = some (.slice A108 n109 c110) ∧ ∃ (A111 : Option Addr) (n112 : Nat) (c113 : Nat), w104.cell? ((⟨g23, 0, none⟩ : Addr).add 2) = some (.slice A111 n112 c113) ∧ ∃ (n114 : Int), w104.cell? ((⟨g23, 0, none⟩ : Addr).add 3) = some (.int .i64 n114) ∧ ∃ (n115 : Int), w104.cell? ((⟨g23, 0, none⟩ : Addr).add 4) = some (.int .i64 n115) ∧ K (.tuple #[(.agg #[(.slice A105 n106 c107), (.slice A108 n109 c110), (.slice A111 n112 c113), (.int .i64 n114), (.int .i64 n115)]), (.bool false)]) w104) (Cll Try.prog 66 #[(.slice A1 n1 c1)] w91 fun v116 w117 => (∃ (A118 : Option Addr) (n119 : Nat) (c120 : Nat), v116 = (.slice A118 n119 c120) ∧ stCells ((⟨g49, 0, none⟩ : Addr).add 2) [(.slice A118 n119 c120)] 0 w117 fun w121 => ∃ (A122 : Option Addr) (n123 : Nat) (c124 : Nat), w121.cell? ((⟨g49, 0, none⟩ : Addr).add 0) = some (.slice A122 n123 c124) ∧ ∃ (A125 : Option Addr) (n126 : Nat) (c127 : Nat), w121.cell? ((⟨g49, 0, none⟩ : Addr).add 1) = some (.slice A125 n126 c127) ∧ ∃ (A128 : Option Addr) (n129 : Nat) (c130 : Nat), w121.cell? ((⟨g49, 0, none⟩ : Addr).add 2) = some (.slice A128 n129 c130) ∧ ∃ (n131 : Int), w121.cell? ((⟨g49, 0, none⟩ : Addr).add 3) = some (.int .i64 n131) ∧ ∃ (n132 : Int), w121.cell? ((⟨g49, 0, none⟩ : Addr).add 4) = some (.int .i64 n132) ∧ stCells (⟨g23, 0, none⟩ : Addr) [(.slice A122 n123 c124), (.slice A125 n126 c127), (.slice A128 n129 c130), (.int .i64 n131), (.int .i64 n132)] 0 w121 fun w133 => ∃ (A134 : Option Addr) (n135 : Nat) (c136 : Nat), w133.cell? ((⟨g23, 0, none⟩ : Addr).add 0) = some (.slice A134 n135 c136) ∧ ∃ (A137 : Option Addr) (n138 : Nat) (c139 : Nat), w133.cell? ((⟨g23, 0, none⟩ : Addr).add 1) = some (.slice A137 n138 c139) ∧ ∃ (A140 : Option Addr) (n141 : Nat) (c142 : Nat), w133.cell? ((⟨g23, 0, none⟩ : Addr).add 2) = some (.slice A140 n141 c142) ∧ ∃ (n143 : Int), w133.cell? ((⟨g23, 0, none⟩ : Addr).add 3) = some (.int .i64 n143) ∧ ∃ (n144 : Int), w133.cell? ((⟨g23, 0, none⟩ : Addr).add 4) = some (.int .i64 n144) ∧ K (.tuple #[(.agg #[(.slice A134 n135 c136), (.slice A137 n138 c139), (.slice A140 n141 c142), (.int .i64 n143), (.int .i64 n144)]), (.bool true)]) w133))))))

def impl_WithMemory.ann : Ann := (.seq .l (.seq .l (.seq (.seq .l (.two (.seq .l .l) .l)) (.seq .l (.seq .l .l)))))

theorem impl_WithMemory.vc_eq (A0_0 : Option Addr) (n0_0 : Nat) (c0_0 : Nat) (A0_1 : Option Addr) (n0_1 : Nat) (c0_1 : Nat) (A0_2 : Option Addr) (n0_2 : Nat) (c0_2 : Nat) (x0_3 : Int) (x0_4 : Int) (A1 : Option Addr) (n1 : Nat) (c1 : Nat) (w : World) (K : Value → World → Prop) : vcF Try.prog Try.f24 impl_WithMemory.ann [(.agg #[(.slice A0_0 n0_0 c0_0), (.slice A0_1 n0_1 c0_1), (.slice A0_2 n0_2 c0_2), (.int .i64 x0_3), (.int .i64 x0_4)]), (.slice A1 n1 c1)] K w = impl_WithMemory.vc A0_0 n0_0 c0_0 A0_1 n0_1 c0_1 A0_2 n0_2 c0_2 x0_3 x0_4 A1 n1 c1 w K := by kernel_rfl

theorem impl_WithMemory.start {A0_0 : Option Addr} {n0_0 : Nat} {c0_0 : Nat} {A0_1 : Option Addr} {n0_1 : Nat} {c0_1 : Nat} {A0_2 : Option Addr} {n0_2 : Nat} {c0_2 : Nat} {x0_3 : Int} {x0_4 : Int} {A1 : Option Addr} {n1 : Nat} {c1 : Nat} {w : World} {K : Value → World → Prop} (h : impl_WithMemory.vc A0_0 n0_0 c0_0 A0_1 n0_1 c0_1 A0_2 n0_2 c0_2 x0_3 x0_4 A1 n1 c1 w K) : Cll Try.prog 24 #[(.agg #[(.slice A0_0 n0_0 c0_0), (.slice A0_1 n0_1 c0_1), (.slice A0_2 n0_2 c0_2), (.int .i64 x0_3), (.int .i64 x0_4)]), (.slice A1 n1 c1)] w K :=
  vcF_sound mixed (fn := Try.f24) (by kernel_rfl) (by kernel_rfl) (an := impl_WithMemory.ann) (args := [(.agg #[(.slice A0_0 n0_0 c0_0), (.slice A0_1 n0_1 c0_1), (.slice A0_2 n0_2 c0_2), (.int .i64 x0_3), (.int .i64 x0_4)]), (.slice A1 n1 c1)]) (by rw [impl_WithMemory.vc_eq]; exact h)

theorem impl_WithMemory.con {s0 : D.Block} {A0_0 : Option Addr} {c0_0 : Nat} {A0_1 : Option Addr} {c0_1 : Nat} {A0_2 : Option Addr} {c0_2 : Nat} {xs1 : List Int} {A1 : Option Addr} {c1 : Nat} {r : D.Block × Bool} {w : World} (hp : M.impl_WithMemory_pre s0 xs1) (hr : r = M.impl_WithMemory s0 xs1) (R0_0 : Row el76 w A0_0 s0.Code) (hc0_0 : s0.Code.length ≤ c0_0) (R0_1 : RowW 102 el132 el3 w A0_1 s0.Warps) (hc0_1 : s0.Warps.length ≤ c0_1) (R0_2 : Row el3 w A0_2 s0.Memory) (hc0_2 : s0.Memory.length ≤ c0_2) (R1 : Row el3 w A1 xs1) (hc1 : xs1.length ≤ c1) :
    Cll Try.prog 24 #[(.agg #[(.slice A0_0 s0.Code.length c0_0), (.slice A0_1 s0.Warps.length c0_1), (.slice A0_2 s0.Memory.length c0_2), (.int .i64 s0.Waiting), (.int .i64 s0.Phase)]), (.slice A1 xs1.length c1)] w (fun v_ w_ => ∃ (A0_ : Option Addr) (c0_ : Nat) (A1_ : Option Addr) (c1_ : Nat) (F1_ : Nat → Prop) (A2_ : Option Addr) (c2_ : Nat), v_ = (.tuple #[(.agg #[(.slice A0_ r.1.Code.length c0_), (.slice A1_ r.1.Warps.length c1_), (.slice A2_ r.1.Memory.length c2_), (.int .i64 r.1.Waiting), (.int .i64 r.1.Phase)]), (.bool r.2)]) ∧ Own el76 w_ w.heap.size A0_ c0_ r.1.Code ∧ OwnW 102 el132 el3 w_ w.heap.size F1_ A1_ c1_ r.1.Warps ∧ Own el3 w_ w.heap.size A2_ c2_ r.1.Memory ∧ Dis (InW A1_ F1_) (InB A2_) ∧ Ext w w_) := by
  have H := wp.impl_WithMemory.math s0 xs1 hp
  have hB := Ext.refl w
  refine impl_WithMemory.start ?_
  unfold impl_WithMemory.vc
  unfold wp.impl_WithMemory at H
  refine newBlk (fun g5_ w21 L5 P5 e22 => ?_)
  have O5 := P5
  have L5 := Nat.le_trans hB.size L5
  have hB := ethen hB e22
  refine newBlk (fun g6_ w23 L6 P6 e24 => ?_)
  have N5_6 := O5.ne L6
  have O5 := O5.ext e24
  have O6 := P6
  have L6 := Nat.le_trans hB.size L6
  have hB := ethen hB e24
  refine ⟨_, _, _, (O5.at 0 rfl rfl), ?_⟩
  refine ⟨_, _, _, (O5.at 1 rfl rfl), ?_⟩
  refine ⟨_, _, _, (O5.at 2 rfl rfl), ?_⟩
  refine ⟨_, (O5.at 3 rfl rfl), ?_⟩
  refine ⟨_, (O5.at 4 rfl rfl), ?_⟩
  obtain ⟨hp27, H⟩ := H
  obtain ⟨r25, hr26⟩ : ∃ r_, r_ = M.impl_copyBlock s0 := ⟨_, rfl⟩
  have H := H r25 hr26
  refine (impl_copyBlock.con hp27 hr26 (R0_0.ext hB) hc0_0 (R0_1.ext hB) hc0_1 (R0_2.ext hB) hc0_2).mono ?_
  rintro _ w28 ⟨A30, c31, A32, c33, F36, A34, c35, rfl, P7, P8, P9, N8_9, e29⟩
  have N7_5 := P7.apart_old O5.lt
  have N7_6 := P7.apart_old O6.lt
  have N8_5 := P8.new_disbox O5 (Nat.le_refl _)
  have N8_6 := P8.new_disbox O6 (Nat.le_refl _)
  have N9_5 := P9.apart_old O5.lt
  have N9_6 := P9.apart_old O6.lt
  have O5 := O5.ext e29
  have O6 := O6.ext e29
  have O7 := P7.mono hB.size
  have O8 := P8.mono hB.size
  have O9 := P9.mono hB.size
  have hB := ethen hB e29
  refine ⟨A30, r25.Code.length, c31, trivial, ?_⟩
  refine ⟨A32, r25.Warps.length, c33, trivial, ?_⟩
  refine ⟨A34, r25.Memory.length, c35, trivial, ?_⟩
  refine ⟨r25.Waiting, trivial, ?_⟩
  refine ⟨r25.Phase, trivial, ?_⟩
  refine ⟨rfl, ?_⟩
  refine newBlk (fun g10_ w37 L10 P10 e38 => ?_)
  have N5_10 := O5.ne L10
  have N6_10 := O6.ne L10
  have N7_10 := O7.apart_new L10
  have N8_10 := O8.dis_newbox L10
  have N9_10 := O9.apart_new L10
  have O5 := O5.ext e38
  have O6 := O6.ext e38
  have O7 := O7.ext e38
  have O8 := O8.ext e38
  have O9 := O9.ext e38
  have O10 := P10
  have L10 := Nat.le_trans hB.size L10
  have hB := ethen hB e38
  refine stBlk O10 (o := 0) (cs' := #[(.slice A30 r25.Code.length c31), (.slice A32 r25.Warps.length c33), (.slice A34 r25.Memory.length c35), (.int .i64 r25.Waiting), (.int .i64 r25.Phase)]) rfl rfl (Nat.le_of_ble_eq_true rfl) rfl (fun w39 P10 e40 => ?_)
  have O5_ := O5.chg e40 N5_10
  have O6_ := O6.chg e40 N6_10
  have O7_ := O7.chg e40 N7_10
  have O8_ := O8.chg e40 N8_10
  have O9_ := O9.chg e40 N9_10
  have O5 := O5_
  have O6 := O6_
  have O7 := O7_
  have O8 := O8_
  have O9 := O9_
  have hB := echg hB e40 L10
  have O10 := P10
  refine ⟨_, _, _, (O5.at 0 rfl rfl), ?_⟩
  refine ⟨_, _, _, (O5.at 1 rfl rfl), ?_⟩
  refine ⟨_, _, _, (O5.at 2 rfl rfl), ?_⟩
  refine ⟨_, (O5.at 3 rfl rfl), ?_⟩
  refine ⟨_, (O5.at 4 rfl rfl), ?_⟩
  obtain ⟨hp43, H⟩ := H
  obtain ⟨r41, hr42⟩ : ∃ r_, r_ = M.impl_BlockOk s0 := ⟨_, rfl⟩
  have H := H r41 hr42
  refine (impl_BlockOk.con hp43 hr42 (R0_0.ext hB) hc0_0 (R0_1.ext hB) hc0_1 (R0_2.ext hB) hc0_2).mono ?_
  rintro _ w44 ⟨rfl, e45⟩
  have O5 := O5.ext e45
  have O6 := O6.ext e45
  have O7 := O7.ext e45
  have O8 := O8.ext e45
  have O9 := O9.ext e45
  have O10 := O10.ext e45
  have hB := ethen hB e45
  refine ⟨r41, rfl, ?_⟩
  refine bcase_mk (fun hc67 => ?_) (fun hc67 => ?_)
  · have H := (bcase_iff.1 H).1 hc67
    refine ⟨_, _, _, (O10.at 0 rfl rfl), ?_⟩
    refine ⟨_, _, _, (O10.at 1 rfl rfl), ?_⟩
    refine ⟨_, _, _, (O10.at 2 rfl rfl), ?_⟩
    refine ⟨_, (O10.at 3 rfl rfl), ?_⟩
    refine ⟨_, (O10.at 4 rfl rfl), ?_⟩
    refine stBlk O6 (o := 0) (cs' := #[(.slice A30 r25.Code.length c31), (.slice A32 r25.Warps.length c33), (.slice A34 r25.Memory.length c35), (.int .i64 r25.Waiting), (.int .i64 r25.Phase)]) rfl rfl (Nat.le_of_ble_eq_true rfl) rfl (fun w46 P6 e47 => ?_)
    have O5_ := O5.chg e47 N5_6
    have O7_ := O7.chg e47 N7_6
    have O8_ := O8.chg e47 N8_6
    have O9_ := O9.chg e47 N9_6
    have O10_ := O10.chg e47 (N6_10).symm
    have O5 := O5_
    have O7 := O7_
    have O8 := O8_
    have O9 := O9_
    have O10 := O10_
    have hB := echg hB e47 L6
    have O6 := P6
    refine ⟨_, _, _, (O6.at 0 rfl rfl), ?_⟩
    refine ⟨_, _, _, (O6.at 1 rfl rfl), ?_⟩
    refine ⟨_, _, _, (O6.at 2 rfl rfl), ?_⟩
    refine ⟨_, (O6.at 3 rfl rfl), ?_⟩
    refine ⟨_, (O6.at 4 rfl rfl), ?_⟩
    obtain rfl := hr.trans H.symm
    exact ⟨A30, c31, A32, c33, F36, A34, c35, rfl, O7, O8, O9, N8_9, hB⟩
  · have H := (bcase_iff.1 H).2 hc67
    obtain ⟨hp50, H⟩ := H
    obtain ⟨r48, hr49⟩ : ∃ r_, r_ = M.impl_isMemory xs1 := ⟨_, rfl⟩
    have H := H r48 hr49
    refine (impl_isMemory.con hp50 hr49 (R1.ext hB) hc1).mono ?_
    rintro _ w51 ⟨rfl, e52⟩
    have O5 := O5.ext e52
    have O6 := O6.ext e52
    have O7 := O7.ext e52
    have O8 := O8.ext e52
    have O9 := O9.ext e52
    have O10 := O10.ext e52
    have hB := ethen hB e52
    refine ⟨r48, rfl, ?_⟩
    refine bcase_mk (fun hc66 => ?_) (fun hc66 => ?_)
    · have H := (bcase_iff.1 H).1 hc66
      refine ⟨_, _, _, (O10.at 0 rfl rfl), ?_⟩
      refine ⟨_, _, _, (O10.at 1 rfl rfl), ?_⟩
      refine ⟨_, _, _, (O10.at 2 rfl rfl), ?_⟩
      refine ⟨_, (O10.at 3 rfl rfl), ?_⟩
      refine ⟨_, (O10.at 4 rfl rfl), ?_⟩
      refine stBlk O6 (o := 0) (cs' := #[(.slice A30 r25.Code.length c31), (.slice A32 r25.Warps.length c33), (.slice A34 r25.Memory.length c35), (.int .i64 r25.Waiting), (.int .i64 r25.Phase)]) rfl rfl (Nat.le_of_ble_eq_true rfl) rfl (fun w53 P6 e54 => ?_)
      have O5_ := O5.chg e54 N5_6
      have O7_ := O7.chg e54 N7_6
      have O8_ := O8.chg e54 N8_6
      have O9_ := O9.chg e54 N9_6
      have O10_ := O10.chg e54 (N6_10).symm
      have O5 := O5_
      have O7 := O7_
      have O8 := O8_
      have O9 := O9_
      have O10 := O10_
      have hB := echg hB e54 L6
      have O6 := P6
      refine ⟨_, _, _, (O6.at 0 rfl rfl), ?_⟩
      refine ⟨_, _, _, (O6.at 1 rfl rfl), ?_⟩
      refine ⟨_, _, _, (O6.at 2 rfl rfl), ?_⟩
      refine ⟨_, (O6.at 3 rfl rfl), ?_⟩
      refine ⟨_, (O6.at 4 rfl rfl), ?_⟩
      obtain rfl := hr.trans H.symm
      exact ⟨A30, c31, A32, c33, F36, A34, c35, rfl, O7, O8, O9, N8_9, hB⟩
    · have H := (bcase_iff.1 H).2 hc66
      obtain ⟨hp57, H⟩ := H
      obtain ⟨r55, hr56⟩ : ∃ r_, r_ = M.slices_Clone_int_int xs1 := ⟨_, rfl⟩
      have H := H r55 hr56
      refine (slices_Clone_int_int.con hp57 hr56 (R1.ext hB) hc1).mono ?_
      rintro _ w58 ⟨A60, c61, rfl, P11, e59⟩
      have N11_5 := P11.apart_old O5.lt
      have N11_6 := P11.apart_old O6.lt
      have N7_11 := Own.apart2_new O7 P11 (Nat.le_refl _)
      have N8_11 := O8.dis_new P11 (Nat.le_refl _)
      have N9_11 := Own.apart2_new O9 P11 (Nat.le_refl _)
      have N11_10 := P11.apart_old O10.lt
      have O5 := O5.ext e59
      have O6 := O6.ext e59
      have O7 := O7.ext e59
      have O8 := O8.ext e59
      have O9 := O9.ext e59
      have O10 := O10.ext e59
      have O11 := P11.mono hB.size
      have hB := ethen hB e59
      refine ⟨A60, r55.length, c61, rfl, ?_⟩
      refine stBlk O10 (o := 2) (cs' := #[(.slice A30 r25.Code.length c31), (.slice A32 r25.Warps.length c33), (.slice A60 r55.length c61), (.int .i64 r25.Waiting), (.int .i64 r25.Phase)]) rfl rfl (Nat.le_of_ble_eq_true rfl) rfl (fun w62 P10 e63 => ?_)
      have O5_ := O5.chg e63 N5_10
      have O6_ := O6.chg e63 N6_10
      have O7_ := O7.chg e63 N7_10
      have O8_ := O8.chg e63 N8_10
      have O9_ := O9.chg e63 N9_10
      have O11_ := O11.chg e63 N11_10
      have O5 := O5_
      have O6 := O6_
      have O7 := O7_
      have O8 := O8_
      have O9 := O9_
      have O11 := O11_
      have hB := echg hB e63 L10
      have O10 := P10
      refine ⟨_, _, _, (O10.at 0 rfl rfl), ?_⟩
      refine ⟨_, _, _, (O10.at 1 rfl rfl), ?_⟩
      refine ⟨_, _, _, (O10.at 2 rfl rfl), ?_⟩
      refine ⟨_, (O10.at 3 rfl rfl), ?_⟩
      refine ⟨_, (O10.at 4 rfl rfl), ?_⟩
      refine stBlk O6 (o := 0) (cs' := #[(.slice A30 r25.Code.length c31), (.slice A32 r25.Warps.length c33), (.slice A60 r55.length c61), (.int .i64 r25.Waiting), (.int .i64 r25.Phase)]) rfl rfl (Nat.le_of_ble_eq_true rfl) rfl (fun w64 P6 e65 => ?_)
      have O5_ := O5.chg e65 N5_6
      have O7_ := O7.chg e65 N7_6
      have O8_ := O8.chg e65 N8_6
      have O9_ := O9.chg e65 N9_6
      have O10_ := O10.chg e65 (N6_10).symm
      have O11_ := O11.chg e65 N11_6
      have O5 := O5_
      have O7 := O7_
      have O8 := O8_
      have O9 := O9_
      have O10 := O10_
      have O11 := O11_
      have hB := echg hB e65 L6
      have O6 := P6
      refine ⟨_, _, _, (O6.at 0 rfl rfl), ?_⟩
      refine ⟨_, _, _, (O6.at 1 rfl rfl), ?_⟩
      refine ⟨_, _, _, (O6.at 2 rfl rfl), ?_⟩
      refine ⟨_, (O6.at 3 rfl rfl), ?_⟩
      refine ⟨_, (O6.at 4 rfl rfl), ?_⟩
      obtain rfl := hr.trans H.symm
      exact ⟨A30, c31, A32, c33, F36, A60, c61, rfl, O7, O8, O11, N8_11, hB⟩

end Go.V
