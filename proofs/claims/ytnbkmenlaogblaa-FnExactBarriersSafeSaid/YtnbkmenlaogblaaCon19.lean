import Derived.Test.YtnbkmenlaogblaaMath19
import Derived.Test.YtnbkmenlaogblaaSeat
import Derived.Test.YtnbkmenlaogblaaVCut
import Derived.Test.YtnbkmenlaogblaaCon6
namespace Go.V
open Go.Proofs
set_option linter.unusedVariables false
set_option linter.unusedSimpArgs false
set_option maxRecDepth 100000

def spec_BranchesOf.vc (A0 : Option Addr) (n0 : Nat) (c0 : Nat) (w : World) (K : Value → World → Prop) : Prop :=
  Run Try.prog (Instr.buildSlice 24 0 #[]) w fun v21 w22 => ∃ (A23 : Option Addr) (n24 c25 : Nat), v21 = .slice A23 n24 c25 ∧ Cll Try.prog 74 #[(.slice A0 n0 c0)] w22 fun v26 w27 => (∃ (b28 : Bool), v26 = (.bool b28) ∧ LoopT (σ := (Option Addr × Nat × Nat) × Int × Unit) (fun z29 w30 next31 => bcase (decide (z29.2.1 < ((n0 : Nat) : Int))) (bcase b28 (((0 : Int) ≤ z29.2.1 ∧ z29.2.1 < ((n0 : Nat) : Int) ∧ ∃ a33 : Addr, A0 = some a33 ∧ ∃ (n34 : Int), w30.cell? (((a33.add ((z29.2.1.toNat) * 4)).add 0).add 0) = some (.int .i64 n34) ∧ bcase (n34 == 10) (((0 : Int) ≤ z29.2.1 ∧ z29.2.1 < ((n0 : Nat) : Int) ∧ ∃ a35 : Addr, A0 = some a35 ∧ ∃ (n36 : Int), w30.cell? (((a35.add ((z29.2.1.toNat) * 4)).add 2).add 0) = some (.int .i64 n36) ∧ bcase (n36 != (IntKind.wrap .i64 (z29.2.1 + 1))) (Run Try.prog (Instr.buildSlice 24 1 #[(0, (.int .i64 z29.2.1))]) w30 fun v37 w38 => ∃ (A39 : Option Addr) (n40 c41 : Nat), v37 = .slice A39 n40 c41 ∧ Run Try.prog (Builtin.append_ #[24, 24] 24 #[(.slice z29.1.1 z29.1.2.1 z29.1.2.2), (.slice A39 n40 c41)]) w38 fun v42 w43 => ∃ (A44 : Option Addr) (n45 c46 : Nat), v42 = .slice A44 n45 c46 ∧ next31 ((A44, n45, c46), (IntKind.wrap .i64 (z29.2.1 + 1)), ()) w43) (next31 ((z29.1.1, z29.1.2.1, z29.1.2.2), (IntKind.wrap .i64 (z29.2.1 + 1)), ()) w30))) (next31 ((z29.1.1, z29.1.2.1, z29.1.2.2), (IntKind.wrap .i64 (z29.2.1 + 1)), ()) w30))) (K (.slice z29.1.1 z29.1.2.1 z29.1.2.2) w30)) (K (.slice z29.1.1 z29.1.2.1 z29.1.2.2) w30)) ((A23, n24, c25), 0, ()) w27)

def spec_BranchesOf.ann : Ann := (.seq .l (.seq .l (.seq .l (.seq (.seq .l (.one (.loop [(3, .sl), (5, .int .i64)] (.seq (.seq .l (.two .l .l)) (.seq (.one (.seq .l (.two .l .l))) .l))))) (.seq .l .l)))))

theorem spec_BranchesOf.vc_eq (A0 : Option Addr) (n0 : Nat) (c0 : Nat) (w : World) (K : Value → World → Prop) : vcF Try.prog Try.f72 spec_BranchesOf.ann [(.slice A0 n0 c0)] K w = spec_BranchesOf.vc A0 n0 c0 w K := by kernel_rfl

theorem spec_BranchesOf.start {A0 : Option Addr} {n0 : Nat} {c0 : Nat} {w : World} {K : Value → World → Prop} (h : spec_BranchesOf.vc A0 n0 c0 w K) : Cll Try.prog 72 #[(.slice A0 n0 c0)] w K :=
  vcF_sound mixed (fn := Try.f72) (by kernel_rfl) (by kernel_rfl) (an := spec_BranchesOf.ann) (args := [(.slice A0 n0 c0)]) (by rw [spec_BranchesOf.vc_eq]; exact h)

theorem spec_BranchesOf.con {xs0 : List D.Ins} {A0 : Option Addr} {c0 : Nat} {r : List Int} {w : World} (hp : M.spec_BranchesOf_pre xs0) (hr : r = M.spec_BranchesOf xs0) (R0 : Row el76 w A0 xs0) (hc0 : xs0.length ≤ c0) :
    Cll Try.prog 72 #[(.slice A0 xs0.length c0)] w (fun v_ w_ => ∃ (A0_ : Option Addr) (c0_ : Nat), v_ = (.slice A0_ r.length c0_) ∧ Own el3 w_ w.heap.size A0_ c0_ r ∧ Ext w w_) := by
  have H := wp.spec_BranchesOf.math xs0 hp
  have hB := Ext.refl w
  refine spec_BranchesOf.start ?_
  unfold spec_BranchesOf.vc
  unfold wp.spec_BranchesOf at H
  refine buildOwn el3 ([] : List Int) (fun _ => by kernel_rfl) rfl (fun A21 w22 P2 e23 => ?_)
  have O2 := P2.mono hB.size
  have hB := ethen hB e23
  obtain ⟨hp26, H⟩ := H
  obtain ⟨r24, hr25⟩ : ∃ r_, r_ = M.spec_ProgramOk xs0 := ⟨_, rfl⟩
  have H := H r24 hr25
  refine (spec_ProgramOk.con hp26 hr25 (R0.ext hB) hc0).mono ?_
  rintro _ w27 ⟨rfl, e28⟩
  have O2 := O2.ext e28
  have hB := ethen hB e28
  refine ⟨r24, rfl, ?_⟩
  obtain ⟨J34, ⟨m71, hJ70⟩, hS35⟩ := H
  refine ⟨fun m_ z_ w_ => ∃ (xs29 : List Int) (i32 : Int) (A30 : Option Addr) (c31 : Nat), z_ = ((A30, xs29.length, c31), i32, ()) ∧ J34 m_ (xs29, i32, ()) ∧ Ext w w_ ∧ Own el3 w_ w.heap.size A30 c31 xs29, ⟨m71, ([] : List Int), 0, A21, 0, rfl, hJ70, hB, O2⟩, ?_⟩
  rintro m33 _ w37 ⟨xs29, i32, A30, c31, rfl, hJ72, hB, O3⟩
  have H := hS35 m33 _ hJ72
  clear hS35 hJ72
  try dsimp only at H ⊢
  refine bcase_mk (fun hc68 => ?_) (fun hc68 => ?_)
  · have H := (bcase_iff.1 H).1 hc68
    refine bcase_mk (fun hc67 => ?_) (fun hc67 => ?_)
    · have H := (bcase_iff.1 H).1 hc67
      obtain ⟨⟨h0_41, h1_42⟩, H⟩ := H
      obtain ⟨a39, ha40, hat38⟩ := Row.at (R0.ext hB) h0_41 h1_42
      refine ⟨h0_41, h1_42, a39, ha40, ?_⟩
      refine ⟨_, (hat38 0 _ rfl), ?_⟩
      refine bcase_mk (fun hc66 => ?_) (fun hc66 => ?_)
      · have H := (bcase_iff.1 H).1 hc66
        obtain ⟨⟨h0_46, h1_47⟩, H⟩ := H
        obtain ⟨a44, ha45, hat43⟩ := Row.at (R0.ext hB) h0_46 h1_47
        refine ⟨h0_46, h1_47, a44, ha45, ?_⟩
        refine ⟨_, (hat43 2 _ rfl), ?_⟩
        refine bcase_mk (fun hc62 => ?_) (fun hc62 => ?_)
        · have H := (bcase_iff.1 H).1 hc62
          refine buildOwn el3 ([i32] : List Int) (fun _ => by kernel_rfl) rfl (fun A48 w49 P4 e50 => ?_)
          have N3_4 := Own.apart2_new O3 P4 (Nat.le_refl _)
          have O3 := O3.ext e50
          have O4 := P4.mono hB.size
          have hB := ethen hB e50
          obtain ⟨hl55, H⟩ := H
          refine appOwn slt24 slt24.under O3 O4.row hB.size rfl (by first | rfl | omega | (simp; done) | (simp; omega)) hl55 (fun A51 c52 w53 P3 e54 => ?_)
          have N4_3_ := Apart2.app (N3_4).symm e54 O4
          have O4 := O4.app e54 (N3_4).symm
          have N4_3 := N4_3_
          have hB := eapp hB e54 O3
          have O3 := P3
          obtain ⟨m56, hm57, hJ58⟩ := H
          exact ⟨m56, hm57, (xs29 ++ ([i32] : List Int)), (IntKind.wrap .i64 (i32 + 1)), A51, c52, rfl, hJ58, hB, O3⟩
        · have H := (bcase_iff.1 H).2 hc62
          obtain ⟨m59, hm60, hJ61⟩ := H
          exact ⟨m59, hm60, xs29, (IntKind.wrap .i64 (i32 + 1)), A30, c31, rfl, hJ61, hB, O3⟩
      · have H := (bcase_iff.1 H).2 hc66
        obtain ⟨m63, hm64, hJ65⟩ := H
        exact ⟨m63, hm64, xs29, (IntKind.wrap .i64 (i32 + 1)), A30, c31, rfl, hJ65, hB, O3⟩
    · have H := (bcase_iff.1 H).2 hc67
      obtain rfl := hr.trans H.symm
      exact ⟨A30, c31, rfl, O3, hB⟩
  · have H := (bcase_iff.1 H).2 hc68
    obtain rfl := hr.trans H.symm
    exact ⟨A30, c31, rfl, O3, hB⟩

def spec_l08Others.vc (A0 : Option Addr) (n0 : Nat) (c0 : Nat) (x1 : Int) (w : World) (K : Value → World → Prop) : Prop :=
  Run Try.prog (Instr.buildSlice 24 0 #[]) w fun v21 w22 => ∃ (A23 : Option Addr) (n24 c25 : Nat), v21 = .slice A23 n24 c25 ∧ LoopT (σ := (Option Addr × Nat × Nat) × Int × Unit) (fun z26 w27 next28 => bcase (decide (z26.2.1 < ((n0 : Nat) : Int))) (((0 : Int) ≤ z26.2.1 ∧ z26.2.1 < ((n0 : Nat) : Int) ∧ ∃ a29 : Addr, A0 = some a29 ∧ ∃ (n30 : Int), w27.cell? ((a29.add ((z26.2.1.toNat) * 1)).add 0) = some (.int .i64 n30) ∧ bcase (n30 != x1) (((0 : Int) ≤ z26.2.1 ∧ z26.2.1 < ((n0 : Nat) : Int) ∧ ∃ a31 : Addr, A0 = some a31 ∧ ∃ (n32 : Int), w27.cell? ((a31.add ((z26.2.1.toNat) * 1)).add 0) = some (.int .i64 n32) ∧ Run Try.prog (Instr.buildSlice 24 1 #[(0, (.int .i64 n32))]) w27 fun v33 w34 => ∃ (A35 : Option Addr) (n36 c37 : Nat), v33 = .slice A35 n36 c37 ∧ Run Try.prog (Builtin.append_ #[24, 24] 24 #[(.slice z26.1.1 z26.1.2.1 z26.1.2.2), (.slice A35 n36 c37)]) w34 fun v38 w39 => ∃ (A40 : Option Addr) (n41 c42 : Nat), v38 = .slice A40 n41 c42 ∧ next28 ((A40, n41, c42), (IntKind.wrap .i64 (z26.2.1 + 1)), ()) w39)) (next28 ((z26.1.1, z26.1.2.1, z26.1.2.2), (IntKind.wrap .i64 (z26.2.1 + 1)), ()) w27))) (K (.slice z26.1.1 z26.1.2.1 z26.1.2.2) w27)) ((A23, n24, c25), 0, ()) w22

def spec_l08Others.ann : Ann := (.seq .l (.seq .l (.seq (.seq .l (.one (.loop [(5, .sl), (6, .int .i64)] (.seq (.seq .l (.two .l .l)) (.seq (.one (.seq .l (.two .l .l))) .l))))) (.seq .l .l))))

theorem spec_l08Others.vc_eq (A0 : Option Addr) (n0 : Nat) (c0 : Nat) (x1 : Int) (w : World) (K : Value → World → Prop) : vcF Try.prog Try.f165 spec_l08Others.ann [(.slice A0 n0 c0), (.int .i64 x1)] K w = spec_l08Others.vc A0 n0 c0 x1 w K := by kernel_rfl

theorem spec_l08Others.start {A0 : Option Addr} {n0 : Nat} {c0 : Nat} {x1 : Int} {w : World} {K : Value → World → Prop} (h : spec_l08Others.vc A0 n0 c0 x1 w K) : Cll Try.prog 165 #[(.slice A0 n0 c0), (.int .i64 x1)] w K :=
  vcF_sound mixed (fn := Try.f165) (by kernel_rfl) (by kernel_rfl) (an := spec_l08Others.ann) (args := [(.slice A0 n0 c0), (.int .i64 x1)]) (by rw [spec_l08Others.vc_eq]; exact h)

theorem spec_l08Others.con {xs0 : List Int} {A0 : Option Addr} {c0 : Nat} {x1 : Int} {r : List Int} {w : World} (hp : M.spec_l08Others_pre xs0 x1) (hr : r = M.spec_l08Others xs0 x1) (R0 : Row el3 w A0 xs0) (hc0 : xs0.length ≤ c0) :
    Cll Try.prog 165 #[(.slice A0 xs0.length c0), (.int .i64 x1)] w (fun v_ w_ => ∃ (A0_ : Option Addr) (c0_ : Nat), v_ = (.slice A0_ r.length c0_) ∧ Own el3 w_ w.heap.size A0_ c0_ r ∧ Ext w w_) := by
  have H := wp.spec_l08Others.math xs0 x1 hp
  have hB := Ext.refl w
  refine spec_l08Others.start ?_
  unfold spec_l08Others.vc
  unfold wp.spec_l08Others at H
  refine buildOwn el3 ([] : List Int) (fun _ => by kernel_rfl) rfl (fun A21 w22 P2 e23 => ?_)
  have O2 := P2.mono hB.size
  have hB := ethen hB e23
  obtain ⟨J29, ⟨m61, hJ60⟩, hS30⟩ := H
  refine ⟨fun m_ z_ w_ => ∃ (xs24 : List Int) (i27 : Int) (A25 : Option Addr) (c26 : Nat), z_ = ((A25, xs24.length, c26), i27, ()) ∧ J29 m_ (xs24, i27, ()) ∧ Ext w w_ ∧ Own el3 w_ w.heap.size A25 c26 xs24, ⟨m61, ([] : List Int), 0, A21, 0, rfl, hJ60, hB, O2⟩, ?_⟩
  rintro m28 _ w32 ⟨xs24, i27, A25, c26, rfl, hJ62, hB, O3⟩
  have H := hS30 m28 _ hJ62
  clear hS30 hJ62
  try dsimp only at H ⊢
  refine bcase_mk (fun hc58 => ?_) (fun hc58 => ?_)
  · have H := (bcase_iff.1 H).1 hc58
    obtain ⟨⟨h0_36, h1_37⟩, H⟩ := H
    obtain ⟨a34, ha35, hat33⟩ := Row.at (R0.ext hB) h0_36 h1_37
    refine ⟨h0_36, h1_37, a34, ha35, ?_⟩
    refine ⟨_, (hat33 0 _ rfl), ?_⟩
    refine bcase_mk (fun hc57 => ?_) (fun hc57 => ?_)
    · have H := (bcase_iff.1 H).1 hc57
      obtain ⟨⟨h0_41, h1_42⟩, H⟩ := H
      obtain ⟨a39, ha40, hat38⟩ := Row.at (R0.ext hB) h0_41 h1_42
      refine ⟨h0_41, h1_42, a39, ha40, ?_⟩
      refine ⟨_, (hat38 0 _ rfl), ?_⟩
      refine buildOwn el3 ([(rd xs0 i27)] : List Int) (fun _ => by kernel_rfl) rfl (fun A43 w44 P4 e45 => ?_)
      have N3_4 := Own.apart2_new O3 P4 (Nat.le_refl _)
      have O3 := O3.ext e45
      have O4 := P4.mono hB.size
      have hB := ethen hB e45
      obtain ⟨hl50, H⟩ := H
      refine appOwn slt24 slt24.under O3 O4.row hB.size rfl (by first | rfl | omega | (simp; done) | (simp; omega)) hl50 (fun A46 c47 w48 P3 e49 => ?_)
      have N4_3_ := Apart2.app (N3_4).symm e49 O4
      have O4 := O4.app e49 (N3_4).symm
      have N4_3 := N4_3_
      have hB := eapp hB e49 O3
      have O3 := P3
      obtain ⟨m51, hm52, hJ53⟩ := H
      exact ⟨m51, hm52, (xs24 ++ ([(rd xs0 i27)] : List Int)), (IntKind.wrap .i64 (i27 + 1)), A46, c47, rfl, hJ53, hB, O3⟩
    · have H := (bcase_iff.1 H).2 hc57
      obtain ⟨m54, hm55, hJ56⟩ := H
      exact ⟨m54, hm55, xs24, (IntKind.wrap .i64 (i27 + 1)), A25, c26, rfl, hJ56, hB, O3⟩
  · have H := (bcase_iff.1 H).2 hc58
    obtain rfl := hr.trans H.symm
    exact ⟨A25, c26, rfl, O3, hB⟩

def spec_l08Has.vc (A0 : Option Addr) (n0 : Nat) (c0 : Nat) (x1 : Int) (w : World) (K : Value → World → Prop) : Prop :=
  Cll Try.prog 165 #[(.slice A0 n0 c0), (.int .i64 x1)] w fun v21 w22 => (∃ (A23 : Option Addr) (n24 : Nat) (c25 : Nat), v21 = (.slice A23 n24 c25) ∧ K (.bool (decide (((n24 : Nat) : Int) < ((n0 : Nat) : Int)))) w22)

def spec_l08Has.ann : Ann := (.seq .l (.seq .l .l))

theorem spec_l08Has.vc_eq (A0 : Option Addr) (n0 : Nat) (c0 : Nat) (x1 : Int) (w : World) (K : Value → World → Prop) : vcF Try.prog Try.f125 spec_l08Has.ann [(.slice A0 n0 c0), (.int .i64 x1)] K w = spec_l08Has.vc A0 n0 c0 x1 w K := by kernel_rfl

theorem spec_l08Has.start {A0 : Option Addr} {n0 : Nat} {c0 : Nat} {x1 : Int} {w : World} {K : Value → World → Prop} (h : spec_l08Has.vc A0 n0 c0 x1 w K) : Cll Try.prog 125 #[(.slice A0 n0 c0), (.int .i64 x1)] w K :=
  vcF_sound mixed (fn := Try.f125) (by kernel_rfl) (by kernel_rfl) (an := spec_l08Has.ann) (args := [(.slice A0 n0 c0), (.int .i64 x1)]) (by rw [spec_l08Has.vc_eq]; exact h)

theorem spec_l08Has.con {xs0 : List Int} {A0 : Option Addr} {c0 : Nat} {x1 : Int} {r : Bool} {w : World} (hp : M.spec_l08Has_pre xs0 x1) (hr : r = M.spec_l08Has xs0 x1) (R0 : Row el3 w A0 xs0) (hc0 : xs0.length ≤ c0) :
    Cll Try.prog 125 #[(.slice A0 xs0.length c0), (.int .i64 x1)] w (fun v_ w_ => v_ = (.bool r) ∧ Ext w w_) := by
  have H := wp.spec_l08Has.math xs0 x1 hp
  have hB := Ext.refl w
  refine spec_l08Has.start ?_
  unfold spec_l08Has.vc
  unfold wp.spec_l08Has at H
  obtain ⟨hp23, H⟩ := H
  obtain ⟨r21, hr22⟩ : ∃ r_, r_ = M.spec_l08Others xs0 x1 := ⟨_, rfl⟩
  have H := H r21 hr22
  refine (spec_l08Others.con hp23 hr22 (R0.ext hB) hc0).mono ?_
  rintro _ w24 ⟨A26, c27, rfl, P2, e25⟩
  have O2 := P2.mono hB.size
  have hB := ethen hB e25
  refine ⟨A26, r21.length, c27, rfl, ?_⟩
  obtain rfl := hr.trans H.symm
  exact ⟨rfl, hB⟩

def spec_l07Ok.vc (A0 : Option Addr) (n0 : Nat) (c0 : Nat) (x1 : Int) (w : World) (K : Value → World → Prop) : Prop :=
  Cll Try.prog 74 #[(.slice A0 n0 c0)] w fun v21 w22 => (∃ (b23 : Bool), v21 = (.bool b23) ∧ bcase b23 (Cll Try.prog 103 #[(.int .i64 x1), (.int .i64 0), (.int .i64 ((n0 : Nat) : Int))] w22 fun v24 w25 => (∃ (b26 : Bool), v24 = (.bool b26) ∧ K (.bool b26) w25)) (K (.bool false) w22))

def spec_l07Ok.ann : Ann := (.seq .l (.seq .l .l))

theorem spec_l07Ok.vc_eq (A0 : Option Addr) (n0 : Nat) (c0 : Nat) (x1 : Int) (w : World) (K : Value → World → Prop) : vcF Try.prog Try.f187 spec_l07Ok.ann [(.slice A0 n0 c0), (.int .i64 x1)] K w = spec_l07Ok.vc A0 n0 c0 x1 w K := by kernel_rfl

theorem spec_l07Ok.start {A0 : Option Addr} {n0 : Nat} {c0 : Nat} {x1 : Int} {w : World} {K : Value → World → Prop} (h : spec_l07Ok.vc A0 n0 c0 x1 w K) : Cll Try.prog 187 #[(.slice A0 n0 c0), (.int .i64 x1)] w K :=
  vcF_sound mixed (fn := Try.f187) (by kernel_rfl) (by kernel_rfl) (an := spec_l07Ok.ann) (args := [(.slice A0 n0 c0), (.int .i64 x1)]) (by rw [spec_l07Ok.vc_eq]; exact h)

theorem spec_l07Ok.con {xs0 : List D.Ins} {A0 : Option Addr} {c0 : Nat} {x1 : Int} {r : Bool} {w : World} (hp : M.spec_l07Ok_pre xs0 x1) (hr : r = M.spec_l07Ok xs0 x1) (R0 : Row el76 w A0 xs0) (hc0 : xs0.length ≤ c0) :
    Cll Try.prog 187 #[(.slice A0 xs0.length c0), (.int .i64 x1)] w (fun v_ w_ => v_ = (.bool r) ∧ Ext w w_) := by
  have H := wp.spec_l07Ok.math xs0 x1 hp
  have hB := Ext.refl w
  refine spec_l07Ok.start ?_
  unfold spec_l07Ok.vc
  unfold wp.spec_l07Ok at H
  obtain ⟨hp23, H⟩ := H
  obtain ⟨r21, hr22⟩ : ∃ r_, r_ = M.spec_ProgramOk xs0 := ⟨_, rfl⟩
  have H := H r21 hr22
  refine (spec_ProgramOk.con hp23 hr22 (R0.ext hB) hc0).mono ?_
  rintro _ w24 ⟨rfl, e25⟩
  have hB := ethen hB e25
  refine ⟨r21, rfl, ?_⟩
  refine bcase_mk (fun hc31 => ?_) (fun hc31 => ?_)
  · have H := (bcase_iff.1 H).1 hc31
    obtain ⟨r26, hr27⟩ : ∃ r_, r_ = M.spec_l01In x1 0 ((xs0.length : Nat) : Int) := ⟨_, rfl⟩
    have H := H r26 hr27
    refine (spec_l01In.con hr27 ).mono ?_
    rintro _ w29 ⟨rfl, e30⟩
    have hB := ethen hB e30
    refine ⟨r26, rfl, ?_⟩
    obtain rfl := hr.trans H.symm
    exact ⟨rfl, hB⟩
  · have H := (bcase_iff.1 H).2 hc31
    obtain rfl := hr.trans H.symm
    exact ⟨rfl, hB⟩

def spec_l04Put.vc (A0 : Option Addr) (n0 : Nat) (c0 : Nat) (x1 : Int) (w : World) (K : Value → World → Prop) : Prop :=
  JoinT (σ := Int × Unit) (fun J21 => LoopT (σ := Int × Unit) (fun z22 w23 next24 => bcase (decide (z22.1 > 0)) (((0 : Int) ≤ (IntKind.wrap .i64 (z22.1 - 1)) ∧ (IntKind.wrap .i64 (z22.1 - 1)) < ((n0 : Nat) : Int) ∧ ∃ a25 : Addr, A0 = some a25 ∧ ∃ (n26 : Int), w23.cell? ((a25.add (((IntKind.wrap .i64 (z22.1 - 1)).toNat) * 1)).add 0) = some (.int .i64 n26) ∧ bcase (decide (n26 > x1)) (next24 ((IntKind.wrap .i64 (z22.1 - 1)), ()) w23) (J21 (z22.1, ()) w23))) (J21 (z22.1, ()) w23)) (((n0 : Nat) : Int), ()) w) fun z27 w28 => JoinT (σ := Unit) (fun J29 => bcase (decide (z27.1 > 0)) (((0 : Int) ≤ (IntKind.wrap .i64 (z27.1 - 1)) ∧ (IntKind.wrap .i64 (z27.1 - 1)) < ((n0 : Nat) : Int) ∧ ∃ a30 : Addr, A0 = some a30 ∧ ∃ (n31 : Int), w28.cell? ((a30.add (((IntKind.wrap .i64 (z27.1 - 1)).toNat) * 1)).add 0) = some (.int .i64 n31) ∧ bcase (n31 == x1) (K (.slice A0 n0 c0) w28) (J29 () w28))) (J29 () w28)) fun z32 w33 => Run Try.prog (Instr.buildSlice 24 0 #[]) w33 fun v34 w35 => ∃ (A36 : Option Addr) (n37 c38 : Nat), v34 = .slice A36 n37 c38 ∧ ((0 : Int) ≤ z27.1 ∧ z27.1 ≤ ((c0 : Nat) : Int) ∧ Run Try.prog (Builtin.append_ #[24, 24] 24 #[(.slice A36 n37 c38), (.slice A0 (z27.1.toNat) c0)]) w35 fun v39 w40 => ∃ (A41 : Option Addr) (n42 c43 : Nat), v39 = .slice A41 n42 c43 ∧ Run Try.prog (Instr.buildSlice 24 1 #[(0, (.int .i64 x1))]) w40 fun v44 w45 => ∃ (A46 : Option Addr) (n47 c48 : Nat), v44 = .slice A46 n47 c48 ∧ Run Try.prog (Builtin.append_ #[24, 24] 24 #[(.slice A41 n42 c43), (.slice A46 n47 c48)]) w45 fun v49 w50 => ∃ (A51 : Option Addr) (n52 c53 : Nat), v49 = .slice A51 n52 c53 ∧ ((0 : Int) ≤ z27.1 ∧ z27.1 ≤ ((n0 : Nat) : Int) ∧ Run Try.prog (Builtin.append_ #[24, 24] 24 #[(.slice A51 n52 c53), (.slice (if c0 = (z27.1.toNat) then A0 else A0.map (·.add ((z27.1.toNat) * szOf Try.prog 3))) (n0 - (z27.1.toNat)) (c0 - (z27.1.toNat)))]) w50 fun v54 w55 => ∃ (A56 : Option Addr) (n57 c58 : Nat), v54 = .slice A56 n57 c58 ∧ K (.slice A56 n57 c58) w55))

def spec_l04Put.ann : Ann := (.seq .l (.seq .l (.cut [(5, .int .i64)] (.one (.loop [(5, .int .i64)] (.seq (.seq .l (.two .l .l)) (.one .l)))) (.cut [] (.seq .l (.two (.seq .l .l) .l)) (.seq .l (.seq .l (.seq .l .l)))))))

theorem spec_l04Put.vc_eq (A0 : Option Addr) (n0 : Nat) (c0 : Nat) (x1 : Int) (w : World) (K : Value → World → Prop) : vcF Try.prog Try.f168 spec_l04Put.ann [(.slice A0 n0 c0), (.int .i64 x1)] K w = spec_l04Put.vc A0 n0 c0 x1 w K := by kernel_rfl

theorem spec_l04Put.start {A0 : Option Addr} {n0 : Nat} {c0 : Nat} {x1 : Int} {w : World} {K : Value → World → Prop} (h : spec_l04Put.vc A0 n0 c0 x1 w K) : Cll Try.prog 168 #[(.slice A0 n0 c0), (.int .i64 x1)] w K :=
  vcF_sound mixed (fn := Try.f168) (by kernel_rfl) (by kernel_rfl) (an := spec_l04Put.ann) (args := [(.slice A0 n0 c0), (.int .i64 x1)]) (by rw [spec_l04Put.vc_eq]; exact h)

theorem spec_l04Put.con {xs0 : List Int} {A0 : Option Addr} {c0 : Nat} {x1 : Int} {r : List Int} {w : World} (hp : M.spec_l04Put_pre xs0 x1) (hr : r = M.spec_l04Put xs0 x1) (O1 : Own el3 w 0 A0 c0 xs0) :
    Cll Try.prog 168 #[(.slice A0 xs0.length c0), (.int .i64 x1)] w (fun v_ w_ => ∃ (A0_ : Option Addr) (c0_ : Nat), v_ = (.slice A0_ r.length c0_) ∧ Own el3 w_ 0 A0_ c0_ r ∧ Mov w A0 A0_ ∧ Chg (InB A0) w w_) := by
  have H := wp.spec_l04Put.math xs0 x1 hp
  have hB := Chg.refl (InB A0) w
  refine spec_l04Put.start ?_
  unfold spec_l04Put.vc
  unfold wp.spec_l04Put at H
  obtain ⟨K83, hKK83, H⟩ := joinP_out H
  refine ⟨fun z_ w_ => ∃ (i21 : Int), z_ = (i21, ()) ∧ K83 (i21, ()) ∧ Chg (InB A0) w w_ ∧ Own el3 w_ 0 A0 c0 xs0, ?_, ?_⟩
  · obtain ⟨J27, ⟨m43, hJ42⟩, hS28⟩ := H
    refine ⟨fun m_ z_ w_ => ∃ (i25 : Int), z_ = (i25, ()) ∧ J27 m_ (i25, ()) ∧ Chg (InB A0) w w_ ∧ Own el3 w_ 0 A0 c0 xs0, ⟨m43, ((xs0.length : Nat) : Int), rfl, hJ42, hB, O1⟩, ?_⟩
    rintro m26 _ w30 ⟨i25, rfl, hJ44, hB, O1⟩
    have H := hS28 m26 _ hJ44
    clear hS28 hJ44
    try dsimp only at H ⊢
    refine bcase_mk (fun hc40 => ?_) (fun hc40 => ?_)
    · have H := (bcase_iff.1 H).1 hc40
      obtain ⟨⟨h0_34, h1_35⟩, H⟩ := H
      obtain ⟨a32, ha33, hat31⟩ := Row.at O1.row h0_34 h1_35
      refine ⟨h0_34, h1_35, a32, ha33, ?_⟩
      refine ⟨_, (hat31 0 _ rfl), ?_⟩
      refine bcase_mk (fun hc39 => ?_) (fun hc39 => ?_)
      · have H := (bcase_iff.1 H).1 hc39
        obtain ⟨m36, hm37, hJ38⟩ := H
        exact ⟨m36, hm37, (IntKind.wrap .i64 (i25 - 1)), rfl, hJ38, hB, O1⟩
      · have H := (bcase_iff.1 H).2 hc39
        exact ⟨i25, rfl, H, hB, O1⟩
    · have H := (bcase_iff.1 H).2 hc40
      exact ⟨i25, rfl, H, hB, O1⟩
  · rintro _ w23 ⟨i21, rfl, H, hB, O1⟩
    have H := hKK83 _ H
    try dsimp only at H ⊢
    obtain ⟨K81, hKK81, H⟩ := joinP_out H
    refine ⟨fun z_ w_ => z_ = (()) ∧ K81 (()) ∧ Chg (InB A0) w w_ ∧ Own el3 w_ 0 A0 c0 xs0, ?_, ?_⟩
    · refine bcase_mk (fun hc54 => ?_) (fun hc54 => ?_)
      · have H := (bcase_iff.1 H).1 hc54
        obtain ⟨⟨h0_51, h1_52⟩, H⟩ := H
        obtain ⟨a49, ha50, hat48⟩ := Row.at O1.row h0_51 h1_52
        refine ⟨h0_51, h1_52, a49, ha50, ?_⟩
        refine ⟨_, (hat48 0 _ rfl), ?_⟩
        refine bcase_mk (fun hc53 => ?_) (fun hc53 => ?_)
        · have H := (bcase_iff.1 H).1 hc53
          obtain rfl := hr.trans H.symm
          exact ⟨A0, c0, rfl, (O1.mono (Nat.zero_le _)), (Mov.same _ _), hB⟩
        · have H := (bcase_iff.1 H).2 hc53
          exact ⟨rfl, H, hB, O1⟩
      · have H := (bcase_iff.1 H).2 hc54
        exact ⟨rfl, H, hB, O1⟩
    · rintro _ w46 ⟨rfl, H, hB, O1⟩
      have H := hKK81 _ H
      try dsimp only at H ⊢
      refine buildOwn el3 ([] : List Int) (fun _ => by kernel_rfl) rfl (fun A55 w56 P2 e57 => ?_)
      have N1_2 := Own.apart2_new O1 P2 (Nat.le_refl _)
      have O1 := O1.ext e57
      have O2 := P2.mono hB.size
      have hB := hB.then e57
      obtain ⟨⟨hh58, hh59⟩, H⟩ := H
      refine and_assoc.1 ⟨⟨hh58, Int.le_trans hh59 (Int.ofNat_le.2 O1.le)⟩, ?_⟩
      have O3 := (O1.take (i21.toNat))
      obtain ⟨hl64, H⟩ := H
      refine appOwn slt24 slt24.under O2 O3.row hB.size (by first | rfl | omega | (simp; done) | (simp; omega)) (by first | rfl | omega | (simp; done) | (simp; omega)) hl64 (fun A60 c61 w62 P2 e63 => ?_)
      have N1_2_ := Apart2.app N1_2 e63 O1
      have O1 := O1.app e63 N1_2
      have N3_2_ := Apart2.app N1_2 e63 O3
      have O3 := O3.app e63 N1_2
      have N1_2 := N1_2_
      have N3_2 := N3_2_
      have hB := hB.app e63 (fun g h_ => Or.inl (O2.low g h_))
      have O2 := P2
      refine buildOwn el3 ([x1] : List Int) (fun _ => by kernel_rfl) rfl (fun A65 w66 P4 e67 => ?_)
      have N1_4 := Own.apart2_new O1 P4 (Nat.le_refl _)
      have N2_4 := Own.apart2_new O2 P4 (Nat.le_refl _)
      have N3_4 := Own.apart2_new O3 P4 (Nat.le_refl _)
      have O1 := O1.ext e67
      have O2 := O2.ext e67
      have O3 := O3.ext e67
      have O4 := P4.mono hB.size
      have hB := hB.then e67
      obtain ⟨hl72, H⟩ := H
      refine appOwn slt24 slt24.under O2 O4.row hB.size rfl (by first | rfl | omega | (simp; done) | (simp; omega)) hl72 (fun A68 c69 w70 P2 e71 => ?_)
      have N1_2_ := Apart2.app N1_2 e71 O1
      have O1 := O1.app e71 N1_2
      have N3_2_ := Apart2.app N3_2 e71 O3
      have O3 := O3.app e71 N3_2
      have N4_2_ := Apart2.app (N2_4).symm e71 O4
      have O4 := O4.app e71 (N2_4).symm
      have N1_2 := N1_2_
      have N3_2 := N3_2_
      have N4_2 := N4_2_
      have hB := hB.app e71 (fun g h_ => Or.inl (O2.low g h_))
      have O2 := P2
      obtain ⟨⟨hl73, hl74⟩, H⟩ := H
      refine and_assoc.1 ⟨⟨hl73, hl74⟩, ?_⟩
      have O5 := (O1.drop (l := (i21.toNat)) (by first | omega | (simp; done) | (simp; omega)))
      obtain ⟨hl79, H⟩ := H
      refine appOwn slt24 slt24.under O2 O5.row hB.size rfl (by first | rfl | omega | (simp; done) | (simp; omega)) hl79 (fun A75 c76 w77 P2 e78 => ?_)
      have N1_2_ := Apart2.app N1_2 e78 O1
      have O1 := O1.app e78 N1_2
      have N3_2_ := Apart2.app N3_2 e78 O3
      have O3 := O3.app e78 N3_2
      have N4_2_ := Apart2.app N4_2 e78 O4
      have O4 := O4.app e78 N4_2
      have N5_2_ := Apart2.app (cutApart2 N1_2) e78 O5
      have O5 := O5.app e78 (cutApart2 N1_2)
      have N1_2 := N1_2_
      have N3_2 := N3_2_
      have N4_2 := N4_2_
      have N5_2 := N5_2_
      have hB := hB.app e78 (fun g h_ => Or.inl (O2.low g h_))
      have O2 := P2
      obtain rfl := hr.trans H.symm
      exact ⟨A75, c76, rfl, (O2.mono (Nat.zero_le _)), (Mov.new O2), hB⟩

def spec_l07Next.vc (A0 : Option Addr) (n0 : Nat) (c0 : Nat) (x1 : Int) (w : World) (K : Value → World → Prop) : Prop :=
  bcase (x1 == ((n0 : Nat) : Int)) (Run Try.prog (Instr.buildSlice 24 0 #[]) w fun v21 w22 => ∃ (A23 : Option Addr) (n24 c25 : Nat), v21 = .slice A23 n24 c25 ∧ K (.slice A23 n24 c25) w22) (((0 : Int) ≤ x1 ∧ x1 < ((n0 : Nat) : Int) ∧ ∃ a26 : Addr, A0 = some a26 ∧ ∃ (n27 : Int), w.cell? (((a26.add ((x1.toNat) * 4)).add 0).add 0) = some (.int .i64 n27) ∧ bcase (n27 == 12) (Run Try.prog (Instr.buildSlice 24 1 #[(0, (.int .i64 ((n0 : Nat) : Int)))]) w fun v28 w29 => ∃ (A30 : Option Addr) (n31 c32 : Nat), v28 = .slice A30 n31 c32 ∧ K (.slice A30 n31 c32) w29) (bcase (n27 == 11) (((0 : Int) ≤ x1 ∧ x1 < ((n0 : Nat) : Int) ∧ ∃ a33 : Addr, A0 = some a33 ∧ ∃ (n34 : Int), w.cell? (((a33.add ((x1.toNat) * 4)).add 2).add 0) = some (.int .i64 n34) ∧ Run Try.prog (Instr.buildSlice 24 1 #[(0, (.int .i64 n34))]) w fun v35 w36 => ∃ (A37 : Option Addr) (n38 c39 : Nat), v35 = .slice A37 n38 c39 ∧ K (.slice A37 n38 c39) w36)) (bcase (n27 == 10) (Run Try.prog (Instr.buildSlice 24 1 #[(0, (.int .i64 (IntKind.wrap .i64 (x1 + 1))))]) w fun v40 w41 => ∃ (A42 : Option Addr) (n43 c44 : Nat), v40 = .slice A42 n43 c44 ∧ ((0 : Int) ≤ x1 ∧ x1 < ((n0 : Nat) : Int) ∧ ∃ a45 : Addr, A0 = some a45 ∧ ∃ (n46 : Int), w41.cell? (((a45.add ((x1.toNat) * 4)).add 2).add 0) = some (.int .i64 n46) ∧ Cll Try.prog 168 #[(.slice A42 n43 c44), (.int .i64 n46)] w41 fun v47 w48 => (∃ (A49 : Option Addr) (n50 : Nat) (c51 : Nat), v47 = (.slice A49 n50 c51) ∧ K (.slice A49 n50 c51) w48))) (Run Try.prog (Instr.buildSlice 24 1 #[(0, (.int .i64 (IntKind.wrap .i64 (x1 + 1))))]) w fun v52 w53 => ∃ (A54 : Option Addr) (n55 c56 : Nat), v52 = .slice A54 n55 c56 ∧ K (.slice A54 n55 c56) w53)))))

def spec_l07Next.ann : Ann := (.seq .l (.seq (.seq .l (.two (.seq .l .l) .l)) (.seq (.seq .l (.one (.seq .l (.two (.seq .l .l) (.seq .l (.two (.seq .l .l) (.seq .l (.two (.seq .l .l) .l)))))))) (.seq .l .l))))

theorem spec_l07Next.vc_eq (A0 : Option Addr) (n0 : Nat) (c0 : Nat) (x1 : Int) (w : World) (K : Value → World → Prop) : vcF Try.prog Try.f127 spec_l07Next.ann [(.slice A0 n0 c0), (.int .i64 x1)] K w = spec_l07Next.vc A0 n0 c0 x1 w K := by kernel_rfl

theorem spec_l07Next.start {A0 : Option Addr} {n0 : Nat} {c0 : Nat} {x1 : Int} {w : World} {K : Value → World → Prop} (h : spec_l07Next.vc A0 n0 c0 x1 w K) : Cll Try.prog 127 #[(.slice A0 n0 c0), (.int .i64 x1)] w K :=
  vcF_sound mixed (fn := Try.f127) (by kernel_rfl) (by kernel_rfl) (an := spec_l07Next.ann) (args := [(.slice A0 n0 c0), (.int .i64 x1)]) (by rw [spec_l07Next.vc_eq]; exact h)

theorem spec_l07Next.con {xs0 : List D.Ins} {A0 : Option Addr} {c0 : Nat} {x1 : Int} {r : List Int} {w : World} (hp : M.spec_l07Next_pre xs0 x1) (hr : r = M.spec_l07Next xs0 x1) (R0 : Row el76 w A0 xs0) (hc0 : xs0.length ≤ c0) :
    Cll Try.prog 127 #[(.slice A0 xs0.length c0), (.int .i64 x1)] w (fun v_ w_ => ∃ (A0_ : Option Addr) (c0_ : Nat), v_ = (.slice A0_ r.length c0_) ∧ Own el3 w_ w.heap.size A0_ c0_ r ∧ Ext w w_) := by
  have H := wp.spec_l07Next.math xs0 x1 hp
  have hB := Ext.refl w
  refine spec_l07Next.start ?_
  unfold spec_l07Next.vc
  unfold wp.spec_l07Next at H
  refine bcase_mk (fun hc61 => ?_) (fun hc61 => ?_)
  · have H := (bcase_iff.1 H).1 hc61
    refine buildOwn el3 ([] : List Int) (fun _ => by kernel_rfl) rfl (fun A21 w22 P2 e23 => ?_)
    have O2 := P2.mono hB.size
    have hB := ethen hB e23
    obtain rfl := hr.trans H.symm
    exact ⟨A21, 0, (by first | rfl | (simp; done) | (simp; omega) | (simp [*]; done)), (by first | exact O2 | (simp only [List.length_set]; exact O2)), hB⟩
  · have H := (bcase_iff.1 H).2 hc61
    obtain ⟨⟨h0_27, h1_28⟩, H⟩ := H
    obtain ⟨a25, ha26, hat24⟩ := Row.at (R0.ext hB) h0_27 h1_28
    refine ⟨h0_27, h1_28, a25, ha26, ?_⟩
    refine ⟨_, (hat24 0 _ rfl), ?_⟩
    refine bcase_mk (fun hc60 => ?_) (fun hc60 => ?_)
    · have H := (bcase_iff.1 H).1 hc60
      refine buildOwn el3 ([((xs0.length : Nat) : Int)] : List Int) (fun _ => by kernel_rfl) rfl (fun A29 w30 P3 e31 => ?_)
      have O3 := P3.mono hB.size
      have hB := ethen hB e31
      obtain rfl := hr.trans H.symm
      exact ⟨A29, 1, (by first | rfl | (simp; done) | (simp; omega) | (simp [*]; done)), (by first | exact O3 | (simp only [List.length_set]; exact O3)), hB⟩
    · have H := (bcase_iff.1 H).2 hc60
      refine bcase_mk (fun hc59 => ?_) (fun hc59 => ?_)
      · have H := (bcase_iff.1 H).1 hc59
        obtain ⟨⟨h0_35, h1_36⟩, H⟩ := H
        obtain ⟨a33, ha34, hat32⟩ := Row.at (R0.ext hB) h0_35 h1_36
        refine ⟨h0_35, h1_36, a33, ha34, ?_⟩
        refine ⟨_, (hat32 2 _ rfl), ?_⟩
        refine buildOwn el3 ([(rd xs0 x1).B] : List Int) (fun _ => by kernel_rfl) rfl (fun A37 w38 P4 e39 => ?_)
        have O4 := P4.mono hB.size
        have hB := ethen hB e39
        obtain rfl := hr.trans H.symm
        exact ⟨A37, 1, (by first | rfl | (simp; done) | (simp; omega) | (simp [*]; done)), (by first | exact O4 | (simp only [List.length_set]; exact O4)), hB⟩
      · have H := (bcase_iff.1 H).2 hc59
        refine bcase_mk (fun hc58 => ?_) (fun hc58 => ?_)
        · have H := (bcase_iff.1 H).1 hc58
          refine buildOwn el3 ([(IntKind.wrap .i64 (x1 + 1))] : List Int) (fun _ => by kernel_rfl) rfl (fun A40 w41 P5 e42 => ?_)
          have O5 := P5.mono hB.size
          have hB := ethen hB e42
          obtain ⟨⟨h0_46, h1_47⟩, H⟩ := H
          obtain ⟨a44, ha45, hat43⟩ := Row.at (R0.ext hB) h0_46 h1_47
          refine ⟨h0_46, h1_47, a44, ha45, ?_⟩
          refine ⟨_, (hat43 2 _ rfl), ?_⟩
          obtain ⟨hp50, H⟩ := H
          obtain ⟨r48, hr49⟩ : ∃ r_, r_ = M.spec_l04Put ([(IntKind.wrap .i64 (x1 + 1))] : List Int) ((rd xs0 x1).B) := ⟨_, rfl⟩
          have H := H r48 hr49
          refine (cllArgs (by first | (simp only [List.length_set]; done) | (simp; done)) (spec_l04Put.con hp50 hr49 (O5.mono (Nat.zero_le _)))).mono ?_
          rintro _ w51 ⟨A53, c54, rfl, P6, Mv6, e52⟩
          have Lw6 := Mv6.low O5.low hB.size
          have hB := Chg.ext hB e52 O5.low
          have O6 := P6.lift Lw6
          refine ⟨A53, r48.length, c54, rfl, ?_⟩
          obtain rfl := hr.trans H.symm
          exact ⟨A53, c54, rfl, O6, hB⟩
        · have H := (bcase_iff.1 H).2 hc58
          refine buildOwn el3 ([(IntKind.wrap .i64 (x1 + 1))] : List Int) (fun _ => by kernel_rfl) rfl (fun A55 w56 P7 e57 => ?_)
          have O7 := P7.mono hB.size
          have hB := ethen hB e57
          obtain rfl := hr.trans H.symm
          exact ⟨A55, 1, (by first | rfl | (simp; done) | (simp; omega) | (simp [*]; done)), (by first | exact O7 | (simp only [List.length_set]; exact O7)), hB⟩

def spec_l07Reach.vc (A0 : Option Addr) (n0 : Nat) (c0 : Nat) (A1 : Option Addr) (n1 : Nat) (c1 : Nat) (w : World) (K : Value → World → Prop) : Prop :=
  vcMake Try.prog 87 (IntKind.wrap .i64 (((n0 : Nat) : Int) + 1)) (IntKind.wrap .i64 (((n0 : Nat) : Int) + 1)) w fun g21 w22 => Run Try.prog (Instr.buildSlice 24 0 #[]) w22 fun v23 w24 => ∃ (A25 : Option Addr) (n26 c27 : Nat), v23 = .slice A25 n26 c27 ∧ Run Try.prog (Builtin.append_ #[24, 24] 24 #[(.slice A25 n26 c27), (.slice A1 n1 c1)]) w24 fun v28 w29 => ∃ (A30 : Option Addr) (n31 c32 : Nat), v28 = .slice A30 n31 c32 ∧ LoopT (σ := (Option Addr × Nat × Nat) × Unit) (fun z33 w34 next35 => bcase (decide (((z33.1.2.1 : Nat) : Int) > 0)) (((0 : Int) ≤ 0 ∧ 0 < ((z33.1.2.1 : Nat) : Int) ∧ ∃ a36 : Addr, z33.1.1 = some a36 ∧ ∃ (n37 : Int), w34.cell? ((a36.add (((0 : Int).toNat) * 1)).add 0) = some (.int .i64 n37) ∧ ((0 : Int) ≤ 1 ∧ 1 ≤ ((z33.1.2.1 : Nat) : Int) ∧ ((0 : Int) ≤ n37 ∧ n37 < ((((IntKind.wrap .i64 (((n0 : Nat) : Int) + 1)).toNat) : Nat) : Int) ∧ ∃ a38 : Addr, (some (⟨g21, 0, none⟩ : Addr)) = some a38 ∧ ∃ (b39 : Bool), w34.cell? ((a38.add ((n37.toNat) * 1)).add 0) = some (.bool b39) ∧ bcase b39 (next35 (((if z33.1.2.2 = ((1 : Int).toNat) then z33.1.1 else z33.1.1.map (·.add (((1 : Int).toNat) * szOf Try.prog 3))), (z33.1.2.1 - ((1 : Int).toNat)), (z33.1.2.2 - ((1 : Int).toNat))), ()) w34) (((0 : Int) ≤ n37 ∧ n37 < ((((IntKind.wrap .i64 (((n0 : Nat) : Int) + 1)).toNat) : Nat) : Int) ∧ ∃ a40 : Addr, (some (⟨g21, 0, none⟩ : Addr)) = some a40 ∧ stCells (a40.add ((n37.toNat) * 1)) [(.bool true)] 0 w34 fun w41 => Cll Try.prog 127 #[(.slice A0 n0 c0), (.int .i64 n37)] w41 fun v42 w43 => (∃ (A44 : Option Addr) (n45 : Nat) (c46 : Nat), v42 = (.slice A44 n45 c46) ∧ Run Try.prog (Builtin.append_ #[24, 24] 24 #[(.slice (if z33.1.2.2 = ((1 : Int).toNat) then z33.1.1 else z33.1.1.map (·.add (((1 : Int).toNat) * szOf Try.prog 3))) (z33.1.2.1 - ((1 : Int).toNat)) (z33.1.2.2 - ((1 : Int).toNat))), (.slice A44 n45 c46)]) w43 fun v47 w48 => ∃ (A49 : Option Addr) (n50 c51 : Nat), v47 = .slice A49 n50 c51 ∧ next35 ((A49, n50, c51), ()) w48))))))) (K (.slice (some (⟨g21, 0, none⟩ : Addr)) ((IntKind.wrap .i64 (((n0 : Nat) : Int) + 1)).toNat) ((IntKind.wrap .i64 (((n0 : Nat) : Int) + 1)).toNat)) w34)) ((A30, n31, c32), ()) w29

def spec_l07Reach.ann : Ann := (.seq .l (.seq .l (.seq .l (.seq (.one (.loop [(6, .sl)] (.seq (.seq .l (.two .l .l)) (.one (.seq .l (.seq .l (.seq (.seq .l (.two .l .l)) (.seq .l .l)))))))) (.seq .l .l)))))

theorem spec_l07Reach.vc_eq (A0 : Option Addr) (n0 : Nat) (c0 : Nat) (A1 : Option Addr) (n1 : Nat) (c1 : Nat) (w : World) (K : Value → World → Prop) : vcF Try.prog Try.f188 spec_l07Reach.ann [(.slice A0 n0 c0), (.slice A1 n1 c1)] K w = spec_l07Reach.vc A0 n0 c0 A1 n1 c1 w K := by kernel_rfl

theorem spec_l07Reach.start {A0 : Option Addr} {n0 : Nat} {c0 : Nat} {A1 : Option Addr} {n1 : Nat} {c1 : Nat} {w : World} {K : Value → World → Prop} (h : spec_l07Reach.vc A0 n0 c0 A1 n1 c1 w K) : Cll Try.prog 188 #[(.slice A0 n0 c0), (.slice A1 n1 c1)] w K :=
  vcF_sound mixed (fn := Try.f188) (by kernel_rfl) (by kernel_rfl) (an := spec_l07Reach.ann) (args := [(.slice A0 n0 c0), (.slice A1 n1 c1)]) (by rw [spec_l07Reach.vc_eq]; exact h)

theorem spec_l07Reach.con {xs0 : List D.Ins} {A0 : Option Addr} {c0 : Nat} {xs1 : List Int} {A1 : Option Addr} {c1 : Nat} {r : List Bool} {w : World} (hp : M.spec_l07Reach_pre xs0 xs1) (hr : r = M.spec_l07Reach xs0 xs1) (R0 : Row el76 w A0 xs0) (hc0 : xs0.length ≤ c0) (R1 : Row el3 w A1 xs1) (hc1 : xs1.length ≤ c1) :
    Cll Try.prog 188 #[(.slice A0 xs0.length c0), (.slice A1 xs1.length c1)] w (fun v_ w_ => ∃ (A0_ : Option Addr) (c0_ : Nat), v_ = (.slice A0_ r.length c0_) ∧ Own el4 w_ w.heap.size A0_ c0_ r ∧ Ext w w_) := by
  have H := wp.spec_l07Reach.math xs0 xs1 hp
  have hB := Ext.refl w
  refine spec_l07Reach.start ?_
  unfold spec_l07Reach.vc
  unfold wp.spec_l07Reach at H
  obtain ⟨⟨h0_24, h1_25⟩, H⟩ := H
  refine makeOwn slt87 h0_24 h1_25 (fun g21 w22 P3 e23 => ?_)
  have O3 := P3.mono hB.size
  have hB := ethen hB e23
  refine buildOwn el3 ([] : List Int) (fun _ => by kernel_rfl) rfl (fun A26 w27 P4 e28 => ?_)
  have N3_4 := Own.apart2_new O3 P4 (Nat.le_refl _)
  have O3 := O3.ext e28
  have O4 := P4.mono hB.size
  have hB := ethen hB e28
  obtain ⟨hl33, H⟩ := H
  refine appOwn slt24 slt24.under O4 (R1.ext hB) hB.size (by first | rfl | omega | (simp; done) | (simp; omega)) rfl hl33 (fun A29 c30 w31 P4 e32 => ?_)
  have N3_4_ := Apart2.app N3_4 e32 O3
  have O3 := O3.app e32 N3_4
  have N3_4 := N3_4_
  have hB := eapp hB e32 O4
  have O4 := P4
  obtain ⟨J83, ⟨m129, hJ128⟩, hS84⟩ := H
  refine ⟨fun m_ z_ w_ => ∃ (xs77 : List Int) (xs80 : List Bool) (A78 : Option Addr) (c79 : Nat), z_ = ((A78, xs77.length, c79), ()) ∧ J83 m_ (xs77, xs80, ()) ∧ Ext w w_ ∧ Own el3 w_ w.heap.size A78 c79 xs77 ∧ Own el4 w_ w.heap.size (some (⟨g21, 0, none⟩ : Addr)) ((IntKind.wrap .i64 (((xs0.length : Nat) : Int) + 1)).toNat) xs80 ∧ ((IntKind.wrap .i64 (((xs0.length : Nat) : Int) + 1)).toNat) = xs80.length, ⟨m129, (([] : List Int) ++ xs1), (List.replicate ((IntKind.wrap .i64 (((xs0.length : Nat) : Int) + 1)).toNat) (default : Bool)), A29, c30, rfl, hJ128, hB, O4, O3, (by first | rfl | assumption | (simp; done) | (simp; omega) | (simp; assumption))⟩, ?_⟩
  rintro m82 _ w86 ⟨xs77, xs80, A78, c79, rfl, hJ130, hB, O8, O3, hn81⟩
  have H := hS84 m82 _ hJ130
  clear hS84 hJ130
  try dsimp only at H ⊢
  refine bcase_mk (fun hc126 => ?_) (fun hc126 => ?_)
  · have H := (bcase_iff.1 H).1 hc126
    obtain ⟨⟨h0_90, h1_91⟩, H⟩ := H
    obtain ⟨a88, ha89, hat87⟩ := Row.at O8.row h0_90 h1_91
    refine ⟨h0_90, h1_91, a88, ha89, ?_⟩
    refine ⟨_, (hat87 0 _ rfl), ?_⟩
    obtain ⟨⟨hl92, hl93⟩, H⟩ := H
    refine and_assoc.1 ⟨⟨hl92, hl93⟩, ?_⟩
    rw [show (xs77.length - ((1 : Int).toNat)) = ((List.drop ((1 : Int).toNat) xs77)).length from by first | rfl | (simp; done) | (simp; omega)]
    have O9 := (O8.drop (l := ((1 : Int).toNat)) (by first | omega | (simp; done) | (simp; omega)))
    obtain ⟨⟨h0_97, h1_98⟩, H⟩ := H
    obtain ⟨a95, ha96, hat94⟩ := Row.at O3.row h0_97 h1_98
    refine ⟨h0_97, (by first | exact h1_98 | omega | (simp at h1_98 ⊢; omega)), a95, ha96, ?_⟩
    refine ⟨_, (hat94 0 _ rfl), ?_⟩
    refine bcase_mk (fun hc125 => ?_) (fun hc125 => ?_)
    · have H := (bcase_iff.1 H).1 hc125
      obtain ⟨m99, hm100, hJ101⟩ := H
      exact ⟨m99, hm100, (List.drop ((1 : Int).toNat) xs77), xs80, (cutA c79 ((1 : Int).toNat) A78 1), (c79 - ((1 : Int).toNat)), rfl, hJ101, hB, O9, O3, (by first | rfl | assumption | (simp; done) | (simp; omega) | (simp; assumption))⟩
    · have H := (bcase_iff.1 H).2 hc125
      obtain ⟨⟨h0_105, h1_106⟩, H⟩ := H
      obtain ⟨a103, ha104, hat102⟩ := Row.at O3.row h0_105 h1_106
      refine ⟨h0_105, (by first | exact h1_106 | omega | (simp at h1_106 ⊢; omega)), a103, ha104, ?_⟩
      refine Own.storeAt O3 ha104 h0_105 h1_106 0 [(.bool true)] true rfl (Nat.le_of_ble_eq_true rfl) rfl (fun w107 P3 e108 hb109 => ?_)
      have O8_ := O8.chg e108 (((Own.apart2_type O8 O3 (by decide))).left ha104)
      have O9_ := O9.chg e108 (((cutApart2 (Own.apart2_type O8 O3 (by decide)))).left ha104)
      have O8 := O8_
      have O9 := O9_
      have hB := echg hB e108 hb109
      have O3 := P3
      obtain ⟨hp112, H⟩ := H
      obtain ⟨r110, hr111⟩ : ∃ r_, r_ = M.spec_l07Next xs0 (rd xs77 0) := ⟨_, rfl⟩
      have H := H r110 hr111
      refine (spec_l07Next.con hp112 hr111 (R0.ext hB) hc0).mono ?_
      rintro _ w113 ⟨A115, c116, rfl, P10, e114⟩
      have N3_10 := Own.apart2_new O3 P10 (Nat.le_refl _)
      have N8_10 := Own.apart2_new O8 P10 (Nat.le_refl _)
      have N9_10 := Own.apart2_new O9 P10 (Nat.le_refl _)
      have O3 := O3.ext e114
      have O8 := O8.ext e114
      have O9 := O9.ext e114
      have O10 := P10.mono hB.size
      have hB := ethen hB e114
      refine ⟨A115, r110.length, c116, rfl, ?_⟩
      obtain ⟨hl121, H⟩ := H
      refine appOwn slt24 slt24.under O9 O10.row hB.size rfl rfl hl121 (fun A117 c118 w119 P9 e120 => ?_)
      have N3_9_ := Apart2.app (cutApart2 (Own.apart2_type O3 O8 (by decide)).symm).symm e120 O3
      have O3 := O3.app e120 (cutApart2 (Own.apart2_type O3 O8 (by decide)).symm).symm
      have N10_9_ := Apart2.app (N9_10).symm e120 O10
      have O10 := O10.app e120 (N9_10).symm
      have N3_9 := N3_9_
      have N10_9 := N10_9_
      have hB := eapp hB e120 O9
      have O9 := P9
      obtain ⟨m122, hm123, hJ124⟩ := H
      exact ⟨m122, hm123, ((List.drop ((1 : Int).toNat) xs77) ++ r110), (List.set xs80 ((rd xs77 0).toNat) true), A117, c118, rfl, hJ124, hB, O9, O3, (by first | rfl | assumption | (simp; done) | (simp; omega) | (simp; assumption))⟩
  · have H := (bcase_iff.1 H).2 hc126
    obtain rfl := hr.trans H.symm
    exact ⟨(some (⟨g21, 0, none⟩ : Addr)), ((IntKind.wrap .i64 (((xs0.length : Nat) : Int) + 1)).toNat), (by first | rfl | (simp; done) | (simp; omega) | (simp [*]; done)), (by first | exact O3 | (simp only [List.length_set]; exact O3)), hB⟩

def spec_ReachesExit.vc (A0 : Option Addr) (n0 : Nat) (c0 : Nat) (x1 : Int) (w : World) (K : Value → World → Prop) : Prop :=
  Cll Try.prog 187 #[(.slice A0 n0 c0), (.int .i64 x1)] w fun v21 w22 => (∃ (b23 : Bool), v21 = (.bool b23) ∧ bcase b23 (Run Try.prog (Instr.buildSlice 24 1 #[(0, (.int .i64 x1))]) w22 fun v24 w25 => ∃ (A26 : Option Addr) (n27 c28 : Nat), v24 = .slice A26 n27 c28 ∧ Cll Try.prog 188 #[(.slice A0 n0 c0), (.slice A26 n27 c28)] w25 fun v29 w30 => (∃ (A31 : Option Addr) (n32 : Nat) (c33 : Nat), v29 = (.slice A31 n32 c33) ∧ ((0 : Int) ≤ ((n0 : Nat) : Int) ∧ ((n0 : Nat) : Int) < ((n32 : Nat) : Int) ∧ ∃ a34 : Addr, A31 = some a34 ∧ ∃ (b35 : Bool), w30.cell? ((a34.add ((((n0 : Nat) : Int).toNat) * 1)).add 0) = some (.bool b35) ∧ K (.bool b35) w30))) (K (.bool false) w22))

def spec_ReachesExit.ann : Ann := (.seq .l (.seq .l .l))

theorem spec_ReachesExit.vc_eq (A0 : Option Addr) (n0 : Nat) (c0 : Nat) (x1 : Int) (w : World) (K : Value → World → Prop) : vcF Try.prog Try.f166 spec_ReachesExit.ann [(.slice A0 n0 c0), (.int .i64 x1)] K w = spec_ReachesExit.vc A0 n0 c0 x1 w K := by kernel_rfl

theorem spec_ReachesExit.start {A0 : Option Addr} {n0 : Nat} {c0 : Nat} {x1 : Int} {w : World} {K : Value → World → Prop} (h : spec_ReachesExit.vc A0 n0 c0 x1 w K) : Cll Try.prog 166 #[(.slice A0 n0 c0), (.int .i64 x1)] w K :=
  vcF_sound mixed (fn := Try.f166) (by kernel_rfl) (by kernel_rfl) (an := spec_ReachesExit.ann) (args := [(.slice A0 n0 c0), (.int .i64 x1)]) (by rw [spec_ReachesExit.vc_eq]; exact h)

theorem spec_ReachesExit.con {xs0 : List D.Ins} {A0 : Option Addr} {c0 : Nat} {x1 : Int} {r : Bool} {w : World} (hp : M.spec_ReachesExit_pre xs0 x1) (hr : r = M.spec_ReachesExit xs0 x1) (R0 : Row el76 w A0 xs0) (hc0 : xs0.length ≤ c0) :
    Cll Try.prog 166 #[(.slice A0 xs0.length c0), (.int .i64 x1)] w (fun v_ w_ => v_ = (.bool r) ∧ Ext w w_) := by
  have H := wp.spec_ReachesExit.math xs0 x1 hp
  have hB := Ext.refl w
  refine spec_ReachesExit.start ?_
  unfold spec_ReachesExit.vc
  unfold wp.spec_ReachesExit at H
  obtain ⟨hp23, H⟩ := H
  obtain ⟨r21, hr22⟩ : ∃ r_, r_ = M.spec_l07Ok xs0 x1 := ⟨_, rfl⟩
  have H := H r21 hr22
  refine (spec_l07Ok.con hp23 hr22 (R0.ext hB) hc0).mono ?_
  rintro _ w24 ⟨rfl, e25⟩
  have hB := ethen hB e25
  refine ⟨r21, rfl, ?_⟩
  refine bcase_mk (fun hc41 => ?_) (fun hc41 => ?_)
  · have H := (bcase_iff.1 H).1 hc41
    refine buildOwn el3 ([x1] : List Int) (fun _ => by kernel_rfl) rfl (fun A26 w27 P2 e28 => ?_)
    have O2 := P2.mono hB.size
    have hB := ethen hB e28
    obtain ⟨hp31, H⟩ := H
    obtain ⟨r29, hr30⟩ : ∃ r_, r_ = M.spec_l07Reach xs0 ([x1] : List Int) := ⟨_, rfl⟩
    have H := H r29 hr30
    refine (cllArgs (by first | (simp only [List.length_set]; done) | (simp; done)) (spec_l07Reach.con hp31 hr30 (R0.ext hB) hc0 O2.row O2.le)).mono ?_
    rintro _ w32 ⟨A34, c35, rfl, P3, e33⟩
    have N2_3 := Own.apart2_new O2 P3 (Nat.le_refl _)
    have O2 := O2.ext e33
    have O3 := P3.mono hB.size
    have hB := ethen hB e33
    refine ⟨A34, r29.length, c35, rfl, ?_⟩
    obtain ⟨⟨h0_39, h1_40⟩, H⟩ := H
    obtain ⟨a37, ha38, hat36⟩ := Row.at O3.row h0_39 h1_40
    refine ⟨h0_39, h1_40, a37, ha38, ?_⟩
    refine ⟨_, (hat36 0 _ rfl), ?_⟩
    obtain rfl := hr.trans H.symm
    exact ⟨rfl, hB⟩
  · have H := (bcase_iff.1 H).2 hc41
    obtain rfl := hr.trans H.symm
    exact ⟨rfl, hB⟩

def spec_l08After.vc (A0 : Option Addr) (n0 : Nat) (c0 : Nat) (x1 : Int) (x2 : Int) (w : World) (K : Value → World → Prop) : Prop :=
  bcase (x1 == x2) (K (.bool true) w) (vcMake Try.prog 87 (IntKind.wrap .i64 (((n0 : Nat) : Int) + 1)) (IntKind.wrap .i64 (((n0 : Nat) : Int) + 1)) w fun g21 w22 => Run Try.prog (Instr.buildSlice 24 1 #[(0, (.int .i64 x1))]) w22 fun v23 w24 => ∃ (A25 : Option Addr) (n26 c27 : Nat), v23 = .slice A25 n26 c27 ∧ LoopT (σ := (Option Addr × Nat × Nat) × Unit) (fun z28 w29 next30 => bcase (decide (((z28.1.2.1 : Nat) : Int) > 0)) (((0 : Int) ≤ 0 ∧ 0 < ((z28.1.2.1 : Nat) : Int) ∧ ∃ a31 : Addr, z28.1.1 = some a31 ∧ ∃ (n32 : Int), w29.cell? ((a31.add (((0 : Int).toNat) * 1)).add 0) = some (.int .i64 n32) ∧ ((0 : Int) ≤ 1 ∧ 1 ≤ ((z28.1.2.1 : Nat) : Int) ∧ ((0 : Int) ≤ n32 ∧ n32 < ((((IntKind.wrap .i64 (((n0 : Nat) : Int) + 1)).toNat) : Nat) : Int) ∧ ∃ a34 : Addr, (some (⟨g21, 0, none⟩ : Addr)) = some a34 ∧ ∃ (b35 : Bool), w29.cell? ((a34.add ((n32.toNat) * 1)).add 0) = some (.bool b35) ∧ bcase b35 (next30 (((if z28.1.2.2 = ((1 : Int).toNat) then z28.1.1 else z28.1.1.map (·.add (((1 : Int).toNat) * szOf Try.prog 3))), (z28.1.2.1 - ((1 : Int).toNat)), (z28.1.2.2 - ((1 : Int).toNat))), ()) w29) (bcase (n32 == x2) (next30 (((if z28.1.2.2 = ((1 : Int).toNat) then z28.1.1 else z28.1.1.map (·.add (((1 : Int).toNat) * szOf Try.prog 3))), (z28.1.2.1 - ((1 : Int).toNat)), (z28.1.2.2 - ((1 : Int).toNat))), ()) w29) (bcase (n32 == ((n0 : Nat) : Int)) (K (.bool false) w29) (((0 : Int) ≤ n32 ∧ n32 < ((((IntKind.wrap .i64 (((n0 : Nat) : Int) + 1)).toNat) : Nat) : Int) ∧ ∃ a36 : Addr, (some (⟨g21, 0, none⟩ : Addr)) = some a36 ∧ stCells (a36.add ((n32.toNat) * 1)) [(.bool true)] 0 w29 fun w37 => Cll Try.prog 127 #[(.slice A0 n0 c0), (.int .i64 n32)] w37 fun v38 w39 => (∃ (A40 : Option Addr) (n41 : Nat) (c42 : Nat), v38 = (.slice A40 n41 c42) ∧ Run Try.prog (Builtin.append_ #[24, 24] 24 #[(.slice (if z28.1.2.2 = ((1 : Int).toNat) then z28.1.1 else z28.1.1.map (·.add (((1 : Int).toNat) * szOf Try.prog 3))) (z28.1.2.1 - ((1 : Int).toNat)) (z28.1.2.2 - ((1 : Int).toNat))), (.slice A40 n41 c42)]) w39 fun v43 w44 => ∃ (A45 : Option Addr) (n46 c47 : Nat), v43 = .slice A45 n46 c47 ∧ next30 ((A45, n46, c47), ()) w44))))))))) (K (.bool true) w29)) ((A25, n26, c27), ()) w24)

def spec_l08After.ann : Ann := (.seq .l (.seq (.seq .l (.two (.seq .l .l) .l)) (.seq .l (.seq .l (.seq (.one (.loop [(8, .sl)] (.seq (.seq .l (.two .l .l)) (.one (.seq .l (.seq .l (.seq (.seq .l (.two .l .l)) (.seq (.seq .l (.two (.seq .l .l) .l)) (.seq .l .l))))))))) (.seq .l .l))))))

theorem spec_l08After.vc_eq (A0 : Option Addr) (n0 : Nat) (c0 : Nat) (x1 : Int) (x2 : Int) (w : World) (K : Value → World → Prop) : vcF Try.prog Try.f213 spec_l08After.ann [(.slice A0 n0 c0), (.int .i64 x1), (.int .i64 x2)] K w = spec_l08After.vc A0 n0 c0 x1 x2 w K := by kernel_rfl

theorem spec_l08After.start {A0 : Option Addr} {n0 : Nat} {c0 : Nat} {x1 : Int} {x2 : Int} {w : World} {K : Value → World → Prop} (h : spec_l08After.vc A0 n0 c0 x1 x2 w K) : Cll Try.prog 213 #[(.slice A0 n0 c0), (.int .i64 x1), (.int .i64 x2)] w K :=
  vcF_sound mixed (fn := Try.f213) (by kernel_rfl) (by kernel_rfl) (an := spec_l08After.ann) (args := [(.slice A0 n0 c0), (.int .i64 x1), (.int .i64 x2)]) (by rw [spec_l08After.vc_eq]; exact h)

theorem spec_l08After.con {xs0 : List D.Ins} {A0 : Option Addr} {c0 : Nat} {x1 : Int} {x2 : Int} {r : Bool} {w : World} (hp : M.spec_l08After_pre xs0 x1 x2) (hr : r = M.spec_l08After xs0 x1 x2) (R0 : Row el76 w A0 xs0) (hc0 : xs0.length ≤ c0) :
    Cll Try.prog 213 #[(.slice A0 xs0.length c0), (.int .i64 x1), (.int .i64 x2)] w (fun v_ w_ => v_ = (.bool r) ∧ Ext w w_) := by
  have H := wp.spec_l08After.math xs0 x1 x2 hp
  have hB := Ext.refl w
  refine spec_l08After.start ?_
  unfold spec_l08After.vc
  unfold wp.spec_l08After at H
  refine bcase_mk (fun hc134 => ?_) (fun hc134 => ?_)
  · have H := (bcase_iff.1 H).1 hc134
    obtain rfl := hr.trans H.symm
    exact ⟨rfl, hB⟩
  · have H := (bcase_iff.1 H).2 hc134
    obtain ⟨⟨h0_24, h1_25⟩, H⟩ := H
    refine makeOwn slt87 h0_24 h1_25 (fun g21 w22 P2 e23 => ?_)
    have O2 := P2.mono hB.size
    have hB := ethen hB e23
    refine buildOwn el3 ([x1] : List Int) (fun _ => by kernel_rfl) rfl (fun A26 w27 P3 e28 => ?_)
    have N2_3 := Own.apart2_new O2 P3 (Nat.le_refl _)
    have O2 := O2.ext e28
    have O3 := P3.mono hB.size
    have hB := ethen hB e28
    obtain ⟨J81, ⟨m132, hJ131⟩, hS82⟩ := H
    refine ⟨fun m_ z_ w_ => ∃ (xs75 : List Int) (xs78 : List Bool) (A76 : Option Addr) (c77 : Nat), z_ = ((A76, xs75.length, c77), ()) ∧ J81 m_ (xs75, xs78, ()) ∧ Ext w w_ ∧ Own el3 w_ w.heap.size A76 c77 xs75 ∧ Own el4 w_ w.heap.size (some (⟨g21, 0, none⟩ : Addr)) ((IntKind.wrap .i64 (((xs0.length : Nat) : Int) + 1)).toNat) xs78 ∧ ((IntKind.wrap .i64 (((xs0.length : Nat) : Int) + 1)).toNat) = xs78.length, ⟨m132, ([x1] : List Int), (List.replicate ((IntKind.wrap .i64 (((xs0.length : Nat) : Int) + 1)).toNat) (default : Bool)), A26, 1, rfl, hJ131, hB, O3, O2, (by first | rfl | assumption | (simp; done) | (simp; omega) | (simp; assumption))⟩, ?_⟩
    rintro m80 _ w84 ⟨xs75, xs78, A76, c77, rfl, hJ133, hB, O7, O2, hn79⟩
    have H := hS82 m80 _ hJ133
    clear hS82 hJ133
    try dsimp only at H ⊢
    refine bcase_mk (fun hc129 => ?_) (fun hc129 => ?_)
    · have H := (bcase_iff.1 H).1 hc129
      obtain ⟨⟨h0_88, h1_89⟩, H⟩ := H
      obtain ⟨a86, ha87, hat85⟩ := Row.at O7.row h0_88 h1_89
      refine ⟨h0_88, h1_89, a86, ha87, ?_⟩
      refine ⟨_, (hat85 0 _ rfl), ?_⟩
      obtain ⟨⟨hl90, hl91⟩, H⟩ := H
      refine and_assoc.1 ⟨⟨hl90, hl91⟩, ?_⟩
      rw [show (xs75.length - ((1 : Int).toNat)) = ((List.drop ((1 : Int).toNat) xs75)).length from by first | rfl | (simp; done) | (simp; omega)]
      have O8 := (O7.drop (l := ((1 : Int).toNat)) (by first | omega | (simp; done) | (simp; omega)))
      obtain ⟨⟨h0_95, h1_96⟩, H⟩ := H
      obtain ⟨a93, ha94, hat92⟩ := Row.at O2.row h0_95 h1_96
      refine ⟨h0_95, (by first | exact h1_96 | omega | (simp at h1_96 ⊢; omega)), a93, ha94, ?_⟩
      refine ⟨_, (hat92 0 _ rfl), ?_⟩
      refine bcase_mk (fun hc128 => ?_) (fun hc128 => ?_)
      · have H := (bcase_iff.1 H).1 hc128
        obtain ⟨m97, hm98, hJ99⟩ := H
        exact ⟨m97, hm98, (List.drop ((1 : Int).toNat) xs75), xs78, (cutA c77 ((1 : Int).toNat) A76 1), (c77 - ((1 : Int).toNat)), rfl, hJ99, hB, O8, O2, (by first | rfl | assumption | (simp; done) | (simp; omega) | (simp; assumption))⟩
      · have H := (bcase_iff.1 H).2 hc128
        refine bcase_mk (fun hc127 => ?_) (fun hc127 => ?_)
        · have H := (bcase_iff.1 H).1 hc127
          obtain ⟨m100, hm101, hJ102⟩ := H
          exact ⟨m100, hm101, (List.drop ((1 : Int).toNat) xs75), xs78, (cutA c77 ((1 : Int).toNat) A76 1), (c77 - ((1 : Int).toNat)), rfl, hJ102, hB, O8, O2, (by first | rfl | assumption | (simp; done) | (simp; omega) | (simp; assumption))⟩
        · have H := (bcase_iff.1 H).2 hc127
          refine bcase_mk (fun hc126 => ?_) (fun hc126 => ?_)
          · have H := (bcase_iff.1 H).1 hc126
            obtain rfl := hr.trans H.symm
            exact ⟨rfl, hB⟩
          · have H := (bcase_iff.1 H).2 hc126
            obtain ⟨⟨h0_106, h1_107⟩, H⟩ := H
            obtain ⟨a104, ha105, hat103⟩ := Row.at O2.row h0_106 h1_107
            refine ⟨h0_106, (by first | exact h1_107 | omega | (simp at h1_107 ⊢; omega)), a104, ha105, ?_⟩
            refine Own.storeAt O2 ha105 h0_106 h1_107 0 [(.bool true)] true rfl (Nat.le_of_ble_eq_true rfl) rfl (fun w108 P2 e109 hb110 => ?_)
            have O7_ := O7.chg e109 (((Own.apart2_type O7 O2 (by decide))).left ha105)
            have O8_ := O8.chg e109 (((cutApart2 (Own.apart2_type O7 O2 (by decide)))).left ha105)
            have O7 := O7_
            have O8 := O8_
            have hB := echg hB e109 hb110
            have O2 := P2
            obtain ⟨hp113, H⟩ := H
            obtain ⟨r111, hr112⟩ : ∃ r_, r_ = M.spec_l07Next xs0 (rd xs75 0) := ⟨_, rfl⟩
            have H := H r111 hr112
            refine (spec_l07Next.con hp113 hr112 (R0.ext hB) hc0).mono ?_
            rintro _ w114 ⟨A116, c117, rfl, P9, e115⟩
            have N2_9 := Own.apart2_new O2 P9 (Nat.le_refl _)
            have N7_9 := Own.apart2_new O7 P9 (Nat.le_refl _)
            have N8_9 := Own.apart2_new O8 P9 (Nat.le_refl _)
            have O2 := O2.ext e115
            have O7 := O7.ext e115
            have O8 := O8.ext e115
            have O9 := P9.mono hB.size
            have hB := ethen hB e115
            refine ⟨A116, r111.length, c117, rfl, ?_⟩
            obtain ⟨hl122, H⟩ := H
            refine appOwn slt24 slt24.under O8 O9.row hB.size rfl rfl hl122 (fun A118 c119 w120 P8 e121 => ?_)
            have N2_8_ := Apart2.app (cutApart2 (Own.apart2_type O2 O7 (by decide)).symm).symm e121 O2
            have O2 := O2.app e121 (cutApart2 (Own.apart2_type O2 O7 (by decide)).symm).symm
            have N9_8_ := Apart2.app (N8_9).symm e121 O9
            have O9 := O9.app e121 (N8_9).symm
            have N2_8 := N2_8_
            have N9_8 := N9_8_
            have hB := eapp hB e121 O8
            have O8 := P8
            obtain ⟨m123, hm124, hJ125⟩ := H
            exact ⟨m123, hm124, ((List.drop ((1 : Int).toNat) xs75) ++ r111), (List.set xs78 ((rd xs75 0).toNat) true), A118, c119, rfl, hJ125, hB, O8, O2, (by first | rfl | assumption | (simp; done) | (simp; omega) | (simp; assumption))⟩
    · have H := (bcase_iff.1 H).2 hc129
      obtain rfl := hr.trans H.symm
      exact ⟨rfl, hB⟩

def spec_AftersOf.vc (A0 : Option Addr) (n0 : Nat) (c0 : Nat) (x1 : Int) (w : World) (K : Value → World → Prop) : Prop :=
  Run Try.prog (Instr.buildSlice 24 0 #[]) w fun v21 w22 => ∃ (A23 : Option Addr) (n24 c25 : Nat), v21 = .slice A23 n24 c25 ∧ Cll Try.prog 166 #[(.slice A0 n0 c0), (.int .i64 x1)] w22 fun v26 w27 => (∃ (b28 : Bool), v26 = (.bool b28) ∧ bcase (!b28) (K (.slice A23 n24 c25) w27) (LoopT (σ := (Option Addr × Nat × Nat) × Int × Unit) (fun z29 w30 next31 => bcase (decide (z29.2.1 ≤ ((n0 : Nat) : Int))) (Cll Try.prog 213 #[(.slice A0 n0 c0), (.int .i64 x1), (.int .i64 z29.2.1)] w30 fun v32 w33 => (∃ (b34 : Bool), v32 = (.bool b34) ∧ bcase b34 (Run Try.prog (Instr.buildSlice 24 1 #[(0, (.int .i64 z29.2.1))]) w33 fun v35 w36 => ∃ (A37 : Option Addr) (n38 c39 : Nat), v35 = .slice A37 n38 c39 ∧ Run Try.prog (Builtin.append_ #[24, 24] 24 #[(.slice z29.1.1 z29.1.2.1 z29.1.2.2), (.slice A37 n38 c39)]) w36 fun v40 w41 => ∃ (A42 : Option Addr) (n43 c44 : Nat), v40 = .slice A42 n43 c44 ∧ next31 ((A42, n43, c44), (IntKind.wrap .i64 (z29.2.1 + 1)), ()) w41) (next31 ((z29.1.1, z29.1.2.1, z29.1.2.2), (IntKind.wrap .i64 (z29.2.1 + 1)), ()) w33))) (K (.slice z29.1.1 z29.1.2.1 z29.1.2.2) w30)) ((A23, n24, c25), 0, ()) w27))

def spec_AftersOf.ann : Ann := (.seq .l (.seq .l (.seq (.seq .l (.two (.seq .l .l) .l)) (.seq (.seq .l (.one (.loop [(5, .sl), (6, .int .i64)] (.seq (.seq .l (.two .l .l)) (.seq (.one (.seq .l (.two .l .l))) .l))))) (.seq .l .l)))))

theorem spec_AftersOf.vc_eq (A0 : Option Addr) (n0 : Nat) (c0 : Nat) (x1 : Int) (w : World) (K : Value → World → Prop) : vcF Try.prog Try.f190 spec_AftersOf.ann [(.slice A0 n0 c0), (.int .i64 x1)] K w = spec_AftersOf.vc A0 n0 c0 x1 w K := by kernel_rfl

theorem spec_AftersOf.start {A0 : Option Addr} {n0 : Nat} {c0 : Nat} {x1 : Int} {w : World} {K : Value → World → Prop} (h : spec_AftersOf.vc A0 n0 c0 x1 w K) : Cll Try.prog 190 #[(.slice A0 n0 c0), (.int .i64 x1)] w K :=
  vcF_sound mixed (fn := Try.f190) (by kernel_rfl) (by kernel_rfl) (an := spec_AftersOf.ann) (args := [(.slice A0 n0 c0), (.int .i64 x1)]) (by rw [spec_AftersOf.vc_eq]; exact h)

theorem spec_AftersOf.con {xs0 : List D.Ins} {A0 : Option Addr} {c0 : Nat} {x1 : Int} {r : List Int} {w : World} (hp : M.spec_AftersOf_pre xs0 x1) (hr : r = M.spec_AftersOf xs0 x1) (R0 : Row el76 w A0 xs0) (hc0 : xs0.length ≤ c0) :
    Cll Try.prog 190 #[(.slice A0 xs0.length c0), (.int .i64 x1)] w (fun v_ w_ => ∃ (A0_ : Option Addr) (c0_ : Nat), v_ = (.slice A0_ r.length c0_) ∧ Own el3 w_ w.heap.size A0_ c0_ r ∧ Ext w w_) := by
  have H := wp.spec_AftersOf.math xs0 x1 hp
  have hB := Ext.refl w
  refine spec_AftersOf.start ?_
  unfold spec_AftersOf.vc
  unfold wp.spec_AftersOf at H
  refine buildOwn el3 ([] : List Int) (fun _ => by kernel_rfl) rfl (fun A21 w22 P2 e23 => ?_)
  have O2 := P2.mono hB.size
  have hB := ethen hB e23
  obtain ⟨hp26, H⟩ := H
  obtain ⟨r24, hr25⟩ : ∃ r_, r_ = M.spec_ReachesExit xs0 x1 := ⟨_, rfl⟩
  have H := H r24 hr25
  refine (spec_ReachesExit.con hp26 hr25 (R0.ext hB) hc0).mono ?_
  rintro _ w27 ⟨rfl, e28⟩
  have O2 := O2.ext e28
  have hB := ethen hB e28
  refine ⟨r24, rfl, ?_⟩
  refine bcase_mk (fun hc63 => ?_) (fun hc63 => ?_)
  · have H := (bcase_iff.1 H).1 hc63
    obtain rfl := hr.trans H.symm
    exact ⟨A21, 0, (by first | rfl | (simp; done) | (simp; omega) | (simp [*]; done)), (by first | exact O2 | (simp only [List.length_set]; exact O2)), hB⟩
  · have H := (bcase_iff.1 H).2 hc63
    obtain ⟨J34, ⟨m61, hJ60⟩, hS35⟩ := H
    refine ⟨fun m_ z_ w_ => ∃ (xs29 : List Int) (i32 : Int) (A30 : Option Addr) (c31 : Nat), z_ = ((A30, xs29.length, c31), i32, ()) ∧ J34 m_ (xs29, i32, ()) ∧ Ext w w_ ∧ Own el3 w_ w.heap.size A30 c31 xs29, ⟨m61, ([] : List Int), 0, A21, 0, rfl, hJ60, hB, O2⟩, ?_⟩
    rintro m33 _ w37 ⟨xs29, i32, A30, c31, rfl, hJ62, hB, O3⟩
    have H := hS35 m33 _ hJ62
    clear hS35 hJ62
    try dsimp only at H ⊢
    refine bcase_mk (fun hc58 => ?_) (fun hc58 => ?_)
    · have H := (bcase_iff.1 H).1 hc58
      obtain ⟨hp40, H⟩ := H
      obtain ⟨r38, hr39⟩ : ∃ r_, r_ = M.spec_l08After xs0 x1 i32 := ⟨_, rfl⟩
      have H := H r38 hr39
      refine (spec_l08After.con hp40 hr39 (R0.ext hB) hc0).mono ?_
      rintro _ w41 ⟨rfl, e42⟩
      have O3 := O3.ext e42
      have hB := ethen hB e42
      refine ⟨r38, rfl, ?_⟩
      refine bcase_mk (fun hc57 => ?_) (fun hc57 => ?_)
      · have H := (bcase_iff.1 H).1 hc57
        refine buildOwn el3 ([i32] : List Int) (fun _ => by kernel_rfl) rfl (fun A43 w44 P4 e45 => ?_)
        have N3_4 := Own.apart2_new O3 P4 (Nat.le_refl _)
        have O3 := O3.ext e45
        have O4 := P4.mono hB.size
        have hB := ethen hB e45
        obtain ⟨hl50, H⟩ := H
        refine appOwn slt24 slt24.under O3 O4.row hB.size rfl (by first | rfl | omega | (simp; done) | (simp; omega)) hl50 (fun A46 c47 w48 P3 e49 => ?_)
        have N4_3_ := Apart2.app (N3_4).symm e49 O4
        have O4 := O4.app e49 (N3_4).symm
        have N4_3 := N4_3_
        have hB := eapp hB e49 O3
        have O3 := P3
        obtain ⟨m51, hm52, hJ53⟩ := H
        exact ⟨m51, hm52, (xs29 ++ ([i32] : List Int)), (IntKind.wrap .i64 (i32 + 1)), A46, c47, rfl, hJ53, hB, O3⟩
      · have H := (bcase_iff.1 H).2 hc57
        obtain ⟨m54, hm55, hJ56⟩ := H
        exact ⟨m54, hm55, xs29, (IntKind.wrap .i64 (i32 + 1)), A30, c31, rfl, hJ56, hB, O3⟩
    · have H := (bcase_iff.1 H).2 hc58
      obtain rfl := hr.trans H.symm
      exact ⟨A30, c31, rfl, O3, hB⟩

def spec_l08First.vc (A0 : Option Addr) (n0 : Nat) (c0 : Nat) (A1 : Option Addr) (n1 : Nat) (c1 : Nat) (w : World) (K : Value → World → Prop) : Prop :=
  LoopT (σ := Int × Unit) (fun z21 w22 next23 => bcase (decide (z21.1 < ((n1 : Nat) : Int))) (LoopT (σ := Bool × Int × Unit) (fun z24 w25 next26 => bcase (decide (z24.2.1 < ((n1 : Nat) : Int))) ((∃ M27 : Nat → Prop, bcase z24.1 (((0 : Int) ≤ z21.1 ∧ z21.1 < ((n1 : Nat) : Int) ∧ ∃ a28 : Addr, A1 = some a28 ∧ ∃ (n29 : Int), (¬ M27 ((a28.add ((z21.1.toNat) * 1))).block ∧ w25.cell? ((a28.add ((z21.1.toNat) * 1)).add 0) = some (.int .i64 n29)) ∧ ((0 : Int) ≤ z24.2.1 ∧ z24.2.1 < ((n1 : Nat) : Int) ∧ ∃ a30 : Addr, A1 = some a30 ∧ ∃ (n31 : Int), (¬ M27 ((a30.add ((z24.2.1.toNat) * 1))).block ∧ w25.cell? ((a30.add ((z24.2.1.toNat) * 1)).add 0) = some (.int .i64 n31)) ∧ Cll Try.prog 213 #[(.slice A0 n0 c0), (.int .i64 n29), (.int .i64 n31)] w25.drew fun v32 w33 => (∃ (b34 : Bool), v32 = (.bool b34) ∧ SameBut M27 w25 w33 ∧ next26 (b34, (IntKind.wrap .i64 (z24.2.1 + 1)), ()) w33)))) (next26 (false, (IntKind.wrap .i64 (z24.2.1 + 1)), ()) w25.drew))) (bcase z24.1 (((0 : Int) ≤ z21.1 ∧ z21.1 < ((n1 : Nat) : Int) ∧ ∃ a35 : Addr, A1 = some a35 ∧ ∃ (n36 : Int), w25.cell? ((a35.add ((z21.1.toNat) * 1)).add 0) = some (.int .i64 n36) ∧ K (.int .i64 n36) w25)) (next23 ((IntKind.wrap .i64 (z21.1 + 1)), ()) w25))) (true, 0, ()) w22) (K (.int .i64 (-1)) w22)) (0, ()) w

def spec_l08First.ann : Ann := (.seq .l (.seq (.seq .l (.one (.loop [(5, .int .i64)] (.seq (.seq .l (.two .l .l)) (.seq (.one (.seq .l (.seq (.seq .l (.one (.loop [(6, .bool), (7, .int .i64)] (.seq (.seq .l (.two .l .l)) (.seq (.one .l) .l))))) (.seq .l (.two (.seq .l .l) .l))))) .l))))) (.seq .l .l)))

theorem spec_l08First.vc_eq (A0 : Option Addr) (n0 : Nat) (c0 : Nat) (A1 : Option Addr) (n1 : Nat) (c1 : Nat) (w : World) (K : Value → World → Prop) : vcF Try.prog Try.f189 spec_l08First.ann [(.slice A0 n0 c0), (.slice A1 n1 c1)] K w = spec_l08First.vc A0 n0 c0 A1 n1 c1 w K := by kernel_rfl

theorem spec_l08First.start {A0 : Option Addr} {n0 : Nat} {c0 : Nat} {A1 : Option Addr} {n1 : Nat} {c1 : Nat} {w : World} {K : Value → World → Prop} (h : spec_l08First.vc A0 n0 c0 A1 n1 c1 w K) : Cll Try.prog 189 #[(.slice A0 n0 c0), (.slice A1 n1 c1)] w K :=
  vcF_sound mixed (fn := Try.f189) (by kernel_rfl) (by kernel_rfl) (an := spec_l08First.ann) (args := [(.slice A0 n0 c0), (.slice A1 n1 c1)]) (by rw [spec_l08First.vc_eq]; exact h)

theorem spec_l08First.con {xs0 : List D.Ins} {A0 : Option Addr} {c0 : Nat} {xs1 : List Int} {A1 : Option Addr} {c1 : Nat} {r : Int} {w : World} (hp : M.spec_l08First_pre xs0 xs1) (hr : r = M.spec_l08First xs0 xs1) (R0 : Row el76 w A0 xs0) (hc0 : xs0.length ≤ c0) (R1 : Row el3 w A1 xs1) (hc1 : xs1.length ≤ c1) :
    Cll Try.prog 189 #[(.slice A0 xs0.length c0), (.slice A1 xs1.length c1)] w (fun v_ w_ => v_ = (.int .i64 r) ∧ Ext w w_) := by
  have H := wp.spec_l08First.math xs0 xs1 hp
  have hB := Ext.refl w
  refine spec_l08First.start ?_
  unfold spec_l08First.vc
  unfold wp.spec_l08First at H
  obtain ⟨J23, ⟨m74, hJ73⟩, hS24⟩ := H
  refine ⟨fun m_ z_ w_ => ∃ (i21 : Int), z_ = (i21, ()) ∧ J23 m_ (i21, ()) ∧ Ext w w_, ⟨m74, 0, rfl, hJ73, hB⟩, ?_⟩
  rintro m22 _ w26 ⟨i21, rfl, hJ75, hB⟩
  have H := hS24 m22 _ hJ75
  clear hS24 hJ75
  try dsimp only at H ⊢
  refine bcase_mk (fun hc71 => ?_) (fun hc71 => ?_)
  · have H := (bcase_iff.1 H).1 hc71
    obtain ⟨J30, ⟨m69, hJ68⟩, hS31⟩ := H
    refine ⟨fun m_ z_ w_ => ∃ (b27 : Bool) (i28 : Int), z_ = (b27, i28, ()) ∧ J30 m_ (b27, i28, ()) ∧ Ext w w_, ⟨m69, true, 0, rfl, hJ68, hB⟩, ?_⟩
    rintro m29 _ w33 ⟨b27, i28, rfl, hJ70, hB⟩
    have H := hS31 m29 _ hJ70
    clear hS31 hJ70
    try dsimp only at H ⊢
    refine bcase_mk (fun hc66 => ?_) (fun hc66 => ?_)
    · have H := (bcase_iff.1 H).1 hc66
      refine ⟨(fun _ => False), ?_⟩
      refine bcase_mk (fun hc56 => ?_) (fun hc56 => ?_)
      · have H := (bcase_iff.1 H).1 hc56
        obtain ⟨⟨h0_38, h1_39⟩, H⟩ := H
        obtain ⟨a36, ha37, hat35⟩ := Row.at (R1.ext hB) h0_38 h1_39
        refine ⟨h0_38, h1_39, a36, ha37, ?_⟩
        refine ⟨_, ⟨(fun h_ => h_), (hat35 0 _ rfl)⟩, ?_⟩
        obtain ⟨⟨h0_43, h1_44⟩, H⟩ := H
        obtain ⟨a41, ha42, hat40⟩ := Row.at (R1.ext hB) h0_43 h1_44
        refine ⟨h0_43, h1_44, a41, ha42, ?_⟩
        refine ⟨_, ⟨(fun h_ => h_), (hat40 0 _ rfl)⟩, ?_⟩
        have hS34 := Chg.refl (fun _ => False) w33
        have hB := ethen hB (Ext.drew _)
        have hS34 := hS34.then (Ext.drew _)
        obtain ⟨hp47, H⟩ := H
        obtain ⟨r45, hr46⟩ : ∃ r_, r_ = M.spec_l08After xs0 (rd xs1 i21) (rd xs1 i28) := ⟨_, rfl⟩
        have H := H r45 hr46
        refine (spec_l08After.con hp47 hr46 (R0.ext hB) hc0).mono ?_
        rintro _ w48 ⟨rfl, e49⟩
        have hB := ethen hB e49
        have hS34 := hS34.then e49
        refine ⟨r45, rfl, ?_⟩
        refine ⟨sameBut_chg hS34, ?_⟩
        obtain ⟨m50, hm51, hJ52⟩ := H
        exact ⟨m50, hm51, r45, (IntKind.wrap .i64 (i28 + 1)), rfl, hJ52, hB⟩
      · have H := (bcase_iff.1 H).2 hc56
        have hB := ethen hB (Ext.drew _)
        obtain ⟨m53, hm54, hJ55⟩ := H
        exact ⟨m53, hm54, false, (IntKind.wrap .i64 (i28 + 1)), rfl, hJ55, hB⟩
    · have H := (bcase_iff.1 H).2 hc66
      refine bcase_mk (fun hc65 => ?_) (fun hc65 => ?_)
      · have H := (bcase_iff.1 H).1 hc65
        obtain ⟨⟨h0_60, h1_61⟩, H⟩ := H
        obtain ⟨a58, ha59, hat57⟩ := Row.at (R1.ext hB) h0_60 h1_61
        refine ⟨h0_60, h1_61, a58, ha59, ?_⟩
        refine ⟨_, (hat57 0 _ rfl), ?_⟩
        obtain rfl := hr.trans H.symm
        exact ⟨rfl, hB⟩
      · have H := (bcase_iff.1 H).2 hc65
        obtain ⟨m62, hm63, hJ64⟩ := H
        exact ⟨m62, hm63, (IntKind.wrap .i64 (i21 + 1)), rfl, hJ64, hB⟩
  · have H := (bcase_iff.1 H).2 hc71
    obtain rfl := hr.trans H.symm
    exact ⟨rfl, hB⟩

def spec_FirstAfter.vc (A0 : Option Addr) (n0 : Nat) (c0 : Nat) (x1 : Int) (w : World) (K : Value → World → Prop) : Prop :=
  Cll Try.prog 190 #[(.slice A0 n0 c0), (.int .i64 x1)] w fun v21 w22 => (∃ (A23 : Option Addr) (n24 : Nat) (c25 : Nat), v21 = (.slice A23 n24 c25) ∧ Cll Try.prog 165 #[(.slice A23 n24 c25), (.int .i64 x1)] w22 fun v26 w27 => (∃ (A28 : Option Addr) (n29 : Nat) (c30 : Nat), v26 = (.slice A28 n29 c30) ∧ Cll Try.prog 189 #[(.slice A0 n0 c0), (.slice A28 n29 c30)] w27 fun v31 w32 => (∃ (n33 : Int), v31 = (.int .i64 n33) ∧ K (.int .i64 n33) w32)))

def spec_FirstAfter.ann : Ann := (.seq .l (.seq .l .l))

theorem spec_FirstAfter.vc_eq (A0 : Option Addr) (n0 : Nat) (c0 : Nat) (x1 : Int) (w : World) (K : Value → World → Prop) : vcF Try.prog Try.f167 spec_FirstAfter.ann [(.slice A0 n0 c0), (.int .i64 x1)] K w = spec_FirstAfter.vc A0 n0 c0 x1 w K := by kernel_rfl

theorem spec_FirstAfter.start {A0 : Option Addr} {n0 : Nat} {c0 : Nat} {x1 : Int} {w : World} {K : Value → World → Prop} (h : spec_FirstAfter.vc A0 n0 c0 x1 w K) : Cll Try.prog 167 #[(.slice A0 n0 c0), (.int .i64 x1)] w K :=
  vcF_sound mixed (fn := Try.f167) (by kernel_rfl) (by kernel_rfl) (an := spec_FirstAfter.ann) (args := [(.slice A0 n0 c0), (.int .i64 x1)]) (by rw [spec_FirstAfter.vc_eq]; exact h)

theorem spec_FirstAfter.con {xs0 : List D.Ins} {A0 : Option Addr} {c0 : Nat} {x1 : Int} {r : Int} {w : World} (hp : M.spec_FirstAfter_pre xs0 x1) (hr : r = M.spec_FirstAfter xs0 x1) (R0 : Row el76 w A0 xs0) (hc0 : xs0.length ≤ c0) :
    Cll Try.prog 167 #[(.slice A0 xs0.length c0), (.int .i64 x1)] w (fun v_ w_ => v_ = (.int .i64 r) ∧ Ext w w_) := by
  have H := wp.spec_FirstAfter.math xs0 x1 hp
  have hB := Ext.refl w
  refine spec_FirstAfter.start ?_
  unfold spec_FirstAfter.vc
  unfold wp.spec_FirstAfter at H
  obtain ⟨hp23, H⟩ := H
  obtain ⟨r21, hr22⟩ : ∃ r_, r_ = M.spec_AftersOf xs0 x1 := ⟨_, rfl⟩
  have H := H r21 hr22
  refine (spec_AftersOf.con hp23 hr22 (R0.ext hB) hc0).mono ?_
  rintro _ w24 ⟨A26, c27, rfl, P2, e25⟩
  have O2 := P2.mono hB.size
  have hB := ethen hB e25
  refine ⟨A26, r21.length, c27, rfl, ?_⟩
  obtain ⟨hp30, H⟩ := H
  obtain ⟨r28, hr29⟩ : ∃ r_, r_ = M.spec_l08Others r21 x1 := ⟨_, rfl⟩
  have H := H r28 hr29
  refine (spec_l08Others.con hp30 hr29 O2.row O2.le).mono ?_
  rintro _ w31 ⟨A33, c34, rfl, P3, e32⟩
  have N2_3 := Own.apart2_new O2 P3 (Nat.le_refl _)
  have O2 := O2.ext e32
  have O3 := P3.mono hB.size
  have hB := ethen hB e32
  refine ⟨A33, r28.length, c34, rfl, ?_⟩
  obtain ⟨hp37, H⟩ := H
  obtain ⟨r35, hr36⟩ : ∃ r_, r_ = M.spec_l08First xs0 r28 := ⟨_, rfl⟩
  have H := H r35 hr36
  refine (spec_l08First.con hp37 hr36 (R0.ext hB) hc0 O3.row O3.le).mono ?_
  rintro _ w38 ⟨rfl, e39⟩
  have O2 := O2.ext e39
  have O3 := O3.ext e39
  have hB := ethen hB e39
  refine ⟨r35, rfl, ?_⟩
  obtain rfl := hr.trans H.symm
  exact ⟨rfl, hB⟩

def spec_l09Join.vc (A0 : Option Addr) (n0 : Nat) (c0 : Nat) (x1 : Int) (w : World) (K : Value → World → Prop) : Prop :=
  Cll Try.prog 166 #[(.slice A0 n0 c0), (.int .i64 (IntKind.wrap .i64 (x1 + 1)))] w fun v21 w22 => (∃ (b23 : Bool), v21 = (.bool b23) ∧ bcase (!b23) (K (.int .i64 ((n0 : Nat) : Int)) w22) (((0 : Int) ≤ x1 ∧ x1 < ((n0 : Nat) : Int) ∧ ∃ a24 : Addr, A0 = some a24 ∧ ∃ (n25 : Int), w22.cell? (((a24.add ((x1.toNat) * 4)).add 2).add 0) = some (.int .i64 n25) ∧ Cll Try.prog 166 #[(.slice A0 n0 c0), (.int .i64 n25)] w22 fun v26 w27 => (∃ (b28 : Bool), v26 = (.bool b28) ∧ bcase (!b28) (K (.int .i64 ((n0 : Nat) : Int)) w27) (Cll Try.prog 167 #[(.slice A0 n0 c0), (.int .i64 x1)] w27 fun v29 w30 => (∃ (n31 : Int), v29 = (.int .i64 n31) ∧ K (.int .i64 n31) w30))))))

def spec_l09Join.ann : Ann := (.seq .l (.seq (.seq .l (.two (.seq .l .l) .l)) (.seq .l .l)))

theorem spec_l09Join.vc_eq (A0 : Option Addr) (n0 : Nat) (c0 : Nat) (x1 : Int) (w : World) (K : Value → World → Prop) : vcF Try.prog Try.f126 spec_l09Join.ann [(.slice A0 n0 c0), (.int .i64 x1)] K w = spec_l09Join.vc A0 n0 c0 x1 w K := by kernel_rfl

theorem spec_l09Join.start {A0 : Option Addr} {n0 : Nat} {c0 : Nat} {x1 : Int} {w : World} {K : Value → World → Prop} (h : spec_l09Join.vc A0 n0 c0 x1 w K) : Cll Try.prog 126 #[(.slice A0 n0 c0), (.int .i64 x1)] w K :=
  vcF_sound mixed (fn := Try.f126) (by kernel_rfl) (by kernel_rfl) (an := spec_l09Join.ann) (args := [(.slice A0 n0 c0), (.int .i64 x1)]) (by rw [spec_l09Join.vc_eq]; exact h)

theorem spec_l09Join.con {xs0 : List D.Ins} {A0 : Option Addr} {c0 : Nat} {x1 : Int} {r : Int} {w : World} (hp : M.spec_l09Join_pre xs0 x1) (hr : r = M.spec_l09Join xs0 x1) (R0 : Row el76 w A0 xs0) (hc0 : xs0.length ≤ c0) :
    Cll Try.prog 126 #[(.slice A0 xs0.length c0), (.int .i64 x1)] w (fun v_ w_ => v_ = (.int .i64 r) ∧ Ext w w_) := by
  have H := wp.spec_l09Join.math xs0 x1 hp
  have hB := Ext.refl w
  refine spec_l09Join.start ?_
  unfold spec_l09Join.vc
  unfold wp.spec_l09Join at H
  obtain ⟨hp23, H⟩ := H
  obtain ⟨r21, hr22⟩ : ∃ r_, r_ = M.spec_ReachesExit xs0 (IntKind.wrap .i64 (x1 + 1)) := ⟨_, rfl⟩
  have H := H r21 hr22
  refine (spec_ReachesExit.con hp23 hr22 (R0.ext hB) hc0).mono ?_
  rintro _ w24 ⟨rfl, e25⟩
  have hB := ethen hB e25
  refine ⟨r21, rfl, ?_⟩
  refine bcase_mk (fun hc42 => ?_) (fun hc42 => ?_)
  · have H := (bcase_iff.1 H).1 hc42
    obtain rfl := hr.trans H.symm
    exact ⟨rfl, hB⟩
  · have H := (bcase_iff.1 H).2 hc42
    obtain ⟨⟨h0_29, h1_30⟩, H⟩ := H
    obtain ⟨a27, ha28, hat26⟩ := Row.at (R0.ext hB) h0_29 h1_30
    refine ⟨h0_29, h1_30, a27, ha28, ?_⟩
    refine ⟨_, (hat26 2 _ rfl), ?_⟩
    obtain ⟨hp33, H⟩ := H
    obtain ⟨r31, hr32⟩ : ∃ r_, r_ = M.spec_ReachesExit xs0 ((rd xs0 x1).B) := ⟨_, rfl⟩
    have H := H r31 hr32
    refine (spec_ReachesExit.con hp33 hr32 (R0.ext hB) hc0).mono ?_
    rintro _ w34 ⟨rfl, e35⟩
    have hB := ethen hB e35
    refine ⟨r31, rfl, ?_⟩
    refine bcase_mk (fun hc41 => ?_) (fun hc41 => ?_)
    · have H := (bcase_iff.1 H).1 hc41
      obtain rfl := hr.trans H.symm
      exact ⟨rfl, hB⟩
    · have H := (bcase_iff.1 H).2 hc41
      obtain ⟨hp38, H⟩ := H
      obtain ⟨r36, hr37⟩ : ∃ r_, r_ = M.spec_FirstAfter xs0 x1 := ⟨_, rfl⟩
      have H := H r36 hr37
      refine (spec_FirstAfter.con hp38 hr37 (R0.ext hB) hc0).mono ?_
      rintro _ w39 ⟨rfl, e40⟩
      have hB := ethen hB e40
      refine ⟨r36, rfl, ?_⟩
      obtain rfl := hr.trans H.symm
      exact ⟨rfl, hB⟩

def spec_l07Marked.vc (A0 : Option Addr) (n0 : Nat) (c0 : Nat) (w : World) (K : Value → World → Prop) : Prop :=
  Run Try.prog (Instr.buildSlice 24 0 #[]) w fun v21 w22 => ∃ (A23 : Option Addr) (n24 c25 : Nat), v21 = .slice A23 n24 c25 ∧ LoopT (σ := (Option Addr × Nat × Nat) × Int × Unit) (fun z26 w27 next28 => bcase (decide (z26.2.1 < ((n0 : Nat) : Int))) (((0 : Int) ≤ z26.2.1 ∧ z26.2.1 < ((n0 : Nat) : Int) ∧ ∃ a29 : Addr, A0 = some a29 ∧ ∃ (b30 : Bool), w27.cell? ((a29.add ((z26.2.1.toNat) * 1)).add 0) = some (.bool b30) ∧ bcase b30 (Run Try.prog (Instr.buildSlice 24 1 #[(0, (.int .i64 z26.2.1))]) w27 fun v31 w32 => ∃ (A33 : Option Addr) (n34 c35 : Nat), v31 = .slice A33 n34 c35 ∧ Run Try.prog (Builtin.append_ #[24, 24] 24 #[(.slice z26.1.1 z26.1.2.1 z26.1.2.2), (.slice A33 n34 c35)]) w32 fun v36 w37 => ∃ (A38 : Option Addr) (n39 c40 : Nat), v36 = .slice A38 n39 c40 ∧ next28 ((A38, n39, c40), (IntKind.wrap .i64 (z26.2.1 + 1)), ()) w37) (next28 ((z26.1.1, z26.1.2.1, z26.1.2.2), (IntKind.wrap .i64 (z26.2.1 + 1)), ()) w27))) (K (.slice z26.1.1 z26.1.2.1 z26.1.2.2) w27)) ((A23, n24, c25), 0, ()) w22

def spec_l07Marked.ann : Ann := (.seq .l (.seq .l (.seq (.seq .l (.one (.loop [(3, .sl), (4, .int .i64)] (.seq (.seq .l (.two .l .l)) (.seq (.one (.seq .l (.two .l .l))) .l))))) (.seq .l .l))))

theorem spec_l07Marked.vc_eq (A0 : Option Addr) (n0 : Nat) (c0 : Nat) (w : World) (K : Value → World → Prop) : vcF Try.prog Try.f128 spec_l07Marked.ann [(.slice A0 n0 c0)] K w = spec_l07Marked.vc A0 n0 c0 w K := by kernel_rfl

theorem spec_l07Marked.start {A0 : Option Addr} {n0 : Nat} {c0 : Nat} {w : World} {K : Value → World → Prop} (h : spec_l07Marked.vc A0 n0 c0 w K) : Cll Try.prog 128 #[(.slice A0 n0 c0)] w K :=
  vcF_sound mixed (fn := Try.f128) (by kernel_rfl) (by kernel_rfl) (an := spec_l07Marked.ann) (args := [(.slice A0 n0 c0)]) (by rw [spec_l07Marked.vc_eq]; exact h)

theorem spec_l07Marked.con {xs0 : List Bool} {A0 : Option Addr} {c0 : Nat} {r : List Int} {w : World} (hp : M.spec_l07Marked_pre xs0) (hr : r = M.spec_l07Marked xs0) (R0 : Row el4 w A0 xs0) (hc0 : xs0.length ≤ c0) :
    Cll Try.prog 128 #[(.slice A0 xs0.length c0)] w (fun v_ w_ => ∃ (A0_ : Option Addr) (c0_ : Nat), v_ = (.slice A0_ r.length c0_) ∧ Own el3 w_ w.heap.size A0_ c0_ r ∧ Ext w w_) := by
  have H := wp.spec_l07Marked.math xs0 hp
  have hB := Ext.refl w
  refine spec_l07Marked.start ?_
  unfold spec_l07Marked.vc
  unfold wp.spec_l07Marked at H
  refine buildOwn el3 ([] : List Int) (fun _ => by kernel_rfl) rfl (fun A21 w22 P2 e23 => ?_)
  have O2 := P2.mono hB.size
  have hB := ethen hB e23
  obtain ⟨J29, ⟨m56, hJ55⟩, hS30⟩ := H
  refine ⟨fun m_ z_ w_ => ∃ (xs24 : List Int) (i27 : Int) (A25 : Option Addr) (c26 : Nat), z_ = ((A25, xs24.length, c26), i27, ()) ∧ J29 m_ (xs24, i27, ()) ∧ Ext w w_ ∧ Own el3 w_ w.heap.size A25 c26 xs24, ⟨m56, ([] : List Int), 0, A21, 0, rfl, hJ55, hB, O2⟩, ?_⟩
  rintro m28 _ w32 ⟨xs24, i27, A25, c26, rfl, hJ57, hB, O3⟩
  have H := hS30 m28 _ hJ57
  clear hS30 hJ57
  try dsimp only at H ⊢
  refine bcase_mk (fun hc53 => ?_) (fun hc53 => ?_)
  · have H := (bcase_iff.1 H).1 hc53
    obtain ⟨⟨h0_36, h1_37⟩, H⟩ := H
    obtain ⟨a34, ha35, hat33⟩ := Row.at (R0.ext hB) h0_36 h1_37
    refine ⟨h0_36, h1_37, a34, ha35, ?_⟩
    refine ⟨_, (hat33 0 _ rfl), ?_⟩
    refine bcase_mk (fun hc52 => ?_) (fun hc52 => ?_)
    · have H := (bcase_iff.1 H).1 hc52
      refine buildOwn el3 ([i27] : List Int) (fun _ => by kernel_rfl) rfl (fun A38 w39 P4 e40 => ?_)
      have N3_4 := Own.apart2_new O3 P4 (Nat.le_refl _)
      have O3 := O3.ext e40
      have O4 := P4.mono hB.size
      have hB := ethen hB e40
      obtain ⟨hl45, H⟩ := H
      refine appOwn slt24 slt24.under O3 O4.row hB.size rfl (by first | rfl | omega | (simp; done) | (simp; omega)) hl45 (fun A41 c42 w43 P3 e44 => ?_)
      have N4_3_ := Apart2.app (N3_4).symm e44 O4
      have O4 := O4.app e44 (N3_4).symm
      have N4_3 := N4_3_
      have hB := eapp hB e44 O3
      have O3 := P3
      obtain ⟨m46, hm47, hJ48⟩ := H
      exact ⟨m46, hm47, (xs24 ++ ([i27] : List Int)), (IntKind.wrap .i64 (i27 + 1)), A41, c42, rfl, hJ48, hB, O3⟩
    · have H := (bcase_iff.1 H).2 hc52
      obtain ⟨m49, hm50, hJ51⟩ := H
      exact ⟨m49, hm50, xs24, (IntKind.wrap .i64 (i27 + 1)), A25, c26, rfl, hJ51, hB, O3⟩
  · have H := (bcase_iff.1 H).2 hc53
    obtain rfl := hr.trans H.symm
    exact ⟨A25, c26, rfl, O3, hB⟩

def spec_InsideOf.vc (A0 : Option Addr) (n0 : Nat) (c0 : Nat) (x1 : Int) (w : World) (K : Value → World → Prop) : Prop :=
  Cll Try.prog 72 #[(.slice A0 n0 c0)] w fun v21 w22 => (∃ (A23 : Option Addr) (n24 : Nat) (c25 : Nat), v21 = (.slice A23 n24 c25) ∧ Cll Try.prog 125 #[(.slice A23 n24 c25), (.int .i64 x1)] w22 fun v26 w27 => (∃ (b28 : Bool), v26 = (.bool b28) ∧ bcase (!b28) (Run Try.prog (Instr.buildSlice 24 0 #[]) w27 fun v29 w30 => ∃ (A31 : Option Addr) (n32 c33 : Nat), v29 = .slice A31 n32 c33 ∧ K (.slice A31 n32 c33) w30) (Cll Try.prog 126 #[(.slice A0 n0 c0), (.int .i64 x1)] w27 fun v34 w35 => (∃ (n36 : Int), v34 = (.int .i64 n36) ∧ vcMake Try.prog 87 (IntKind.wrap .i64 (((n0 : Nat) : Int) + 1)) (IntKind.wrap .i64 (((n0 : Nat) : Int) + 1)) w35 fun g37 w38 => Cll Try.prog 127 #[(.slice A0 n0 c0), (.int .i64 x1)] w38 fun v39 w40 => (∃ (A41 : Option Addr) (n42 : Nat) (c43 : Nat), v39 = (.slice A41 n42 c43) ∧ LoopT (σ := (Option Addr × Nat × Nat) × Unit) (fun z44 w45 next46 => bcase (decide (((z44.1.2.1 : Nat) : Int) > 0)) (((0 : Int) ≤ 0 ∧ 0 < ((z44.1.2.1 : Nat) : Int) ∧ ∃ a47 : Addr, z44.1.1 = some a47 ∧ ∃ (n48 : Int), w45.cell? ((a47.add (((0 : Int).toNat) * 1)).add 0) = some (.int .i64 n48) ∧ ((0 : Int) ≤ 1 ∧ 1 ≤ ((z44.1.2.1 : Nat) : Int) ∧ ((0 : Int) ≤ n48 ∧ n48 < ((((IntKind.wrap .i64 (((n0 : Nat) : Int) + 1)).toNat) : Nat) : Int) ∧ ∃ a50 : Addr, (some (⟨g37, 0, none⟩ : Addr)) = some a50 ∧ ∃ (b51 : Bool), w45.cell? ((a50.add ((n48.toNat) * 1)).add 0) = some (.bool b51) ∧ bcase b51 (next46 (((if z44.1.2.2 = ((1 : Int).toNat) then z44.1.1 else z44.1.1.map (·.add (((1 : Int).toNat) * szOf Try.prog 3))), (z44.1.2.1 - ((1 : Int).toNat)), (z44.1.2.2 - ((1 : Int).toNat))), ()) w45) (bcase (n48 == n36) (next46 (((if z44.1.2.2 = ((1 : Int).toNat) then z44.1.1 else z44.1.1.map (·.add (((1 : Int).toNat) * szOf Try.prog 3))), (z44.1.2.1 - ((1 : Int).toNat)), (z44.1.2.2 - ((1 : Int).toNat))), ()) w45) (((0 : Int) ≤ n48 ∧ n48 < ((((IntKind.wrap .i64 (((n0 : Nat) : Int) + 1)).toNat) : Nat) : Int) ∧ ∃ a52 : Addr, (some (⟨g37, 0, none⟩ : Addr)) = some a52 ∧ stCells (a52.add ((n48.toNat) * 1)) [(.bool true)] 0 w45 fun w53 => Cll Try.prog 127 #[(.slice A0 n0 c0), (.int .i64 n48)] w53 fun v54 w55 => (∃ (A56 : Option Addr) (n57 : Nat) (c58 : Nat), v54 = (.slice A56 n57 c58) ∧ Run Try.prog (Builtin.append_ #[24, 24] 24 #[(.slice (if z44.1.2.2 = ((1 : Int).toNat) then z44.1.1 else z44.1.1.map (·.add (((1 : Int).toNat) * szOf Try.prog 3))) (z44.1.2.1 - ((1 : Int).toNat)) (z44.1.2.2 - ((1 : Int).toNat))), (.slice A56 n57 c58)]) w55 fun v59 w60 => ∃ (A61 : Option Addr) (n62 c63 : Nat), v59 = .slice A61 n62 c63 ∧ next46 ((A61, n62, c63), ()) w60)))))))) (Cll Try.prog 128 #[(.slice (some (⟨g37, 0, none⟩ : Addr)) ((IntKind.wrap .i64 (((n0 : Nat) : Int) + 1)).toNat) ((IntKind.wrap .i64 (((n0 : Nat) : Int) + 1)).toNat))] w45 fun v64 w65 => (∃ (A66 : Option Addr) (n67 : Nat) (c68 : Nat), v64 = (.slice A66 n67 c68) ∧ K (.slice A66 n67 c68) w65))) ((A41, n42, c43), ()) w40)))))

def spec_InsideOf.ann : Ann := (.seq .l (.seq (.seq .l (.two (.seq .l .l) .l)) (.seq .l (.seq .l (.seq .l (.seq (.one (.loop [(7, .sl)] (.seq (.seq .l (.two .l .l)) (.one (.seq .l (.seq .l (.seq (.seq .l (.two .l .l)) (.seq .l .l)))))))) (.seq .l .l)))))))

theorem spec_InsideOf.vc_eq (A0 : Option Addr) (n0 : Nat) (c0 : Nat) (x1 : Int) (w : World) (K : Value → World → Prop) : vcF Try.prog Try.f73 spec_InsideOf.ann [(.slice A0 n0 c0), (.int .i64 x1)] K w = spec_InsideOf.vc A0 n0 c0 x1 w K := by kernel_rfl

theorem spec_InsideOf.start {A0 : Option Addr} {n0 : Nat} {c0 : Nat} {x1 : Int} {w : World} {K : Value → World → Prop} (h : spec_InsideOf.vc A0 n0 c0 x1 w K) : Cll Try.prog 73 #[(.slice A0 n0 c0), (.int .i64 x1)] w K :=
  vcF_sound mixed (fn := Try.f73) (by kernel_rfl) (by kernel_rfl) (an := spec_InsideOf.ann) (args := [(.slice A0 n0 c0), (.int .i64 x1)]) (by rw [spec_InsideOf.vc_eq]; exact h)

theorem spec_InsideOf.con {xs0 : List D.Ins} {A0 : Option Addr} {c0 : Nat} {x1 : Int} {r : List Int} {w : World} (hp : M.spec_InsideOf_pre xs0 x1) (hr : r = M.spec_InsideOf xs0 x1) (R0 : Row el76 w A0 xs0) (hc0 : xs0.length ≤ c0) :
    Cll Try.prog 73 #[(.slice A0 xs0.length c0), (.int .i64 x1)] w (fun v_ w_ => ∃ (A0_ : Option Addr) (c0_ : Nat), v_ = (.slice A0_ r.length c0_) ∧ Own el3 w_ w.heap.size A0_ c0_ r ∧ Ext w w_) := by
  have H := wp.spec_InsideOf.math xs0 x1 hp
  have hB := Ext.refl w
  refine spec_InsideOf.start ?_
  unfold spec_InsideOf.vc
  unfold wp.spec_InsideOf at H
  obtain ⟨hp23, H⟩ := H
  obtain ⟨r21, hr22⟩ : ∃ r_, r_ = M.spec_BranchesOf xs0 := ⟨_, rfl⟩
  have H := H r21 hr22
  refine (spec_BranchesOf.con hp23 hr22 (R0.ext hB) hc0).mono ?_
  rintro _ w24 ⟨A26, c27, rfl, P2, e25⟩
  have O2 := P2.mono hB.size
  have hB := ethen hB e25
  refine ⟨A26, r21.length, c27, rfl, ?_⟩
  obtain ⟨hp30, H⟩ := H
  obtain ⟨r28, hr29⟩ : ∃ r_, r_ = M.spec_l08Has r21 x1 := ⟨_, rfl⟩
  have H := H r28 hr29
  refine (spec_l08Has.con hp30 hr29 O2.row O2.le).mono ?_
  rintro _ w31 ⟨rfl, e32⟩
  have O2 := O2.ext e32
  have hB := ethen hB e32
  refine ⟨r28, rfl, ?_⟩
  refine bcase_mk (fun hc164 => ?_) (fun hc164 => ?_)
  · have H := (bcase_iff.1 H).1 hc164
    refine buildOwn el3 ([] : List Int) (fun _ => by kernel_rfl) rfl (fun A33 w34 P3 e35 => ?_)
    have N2_3 := Own.apart2_new O2 P3 (Nat.le_refl _)
    have O2 := O2.ext e35
    have O3 := P3.mono hB.size
    have hB := ethen hB e35
    obtain rfl := hr.trans H.symm
    exact ⟨A33, 0, (by first | rfl | (simp; done) | (simp; omega) | (simp [*]; done)), (by first | exact O3 | (simp only [List.length_set]; exact O3)), hB⟩
  · have H := (bcase_iff.1 H).2 hc164
    obtain ⟨hp38, H⟩ := H
    obtain ⟨r36, hr37⟩ : ∃ r_, r_ = M.spec_l09Join xs0 x1 := ⟨_, rfl⟩
    have H := H r36 hr37
    refine (spec_l09Join.con hp38 hr37 (R0.ext hB) hc0).mono ?_
    rintro _ w39 ⟨rfl, e40⟩
    have O2 := O2.ext e40
    have hB := ethen hB e40
    refine ⟨r36, rfl, ?_⟩
    obtain ⟨⟨h0_44, h1_45⟩, H⟩ := H
    refine makeOwn slt87 h0_44 h1_45 (fun g41 w42 P4 e43 => ?_)
    have N2_4 := Own.apart2_new O2 P4 (Nat.le_refl _)
    have O2 := O2.ext e43
    have O4 := P4.mono hB.size
    have hB := ethen hB e43
    obtain ⟨hp48, H⟩ := H
    obtain ⟨r46, hr47⟩ : ∃ r_, r_ = M.spec_l07Next xs0 x1 := ⟨_, rfl⟩
    have H := H r46 hr47
    refine (spec_l07Next.con hp48 hr47 (R0.ext hB) hc0).mono ?_
    rintro _ w49 ⟨A51, c52, rfl, P5, e50⟩
    have N2_5 := Own.apart2_new O2 P5 (Nat.le_refl _)
    have N4_5 := Own.apart2_new O4 P5 (Nat.le_refl _)
    have O2 := O2.ext e50
    have O4 := O4.ext e50
    have O5 := P5.mono hB.size
    have hB := ethen hB e50
    refine ⟨A51, r46.length, c52, rfl, ?_⟩
    obtain ⟨J105, ⟨m162, hJ161⟩, hS106⟩ := H
    refine ⟨fun m_ z_ w_ => ∃ (xs99 : List Int) (xs102 : List Bool) (A100 : Option Addr) (c101 : Nat), z_ = ((A100, xs99.length, c101), ()) ∧ J105 m_ (xs99, xs102, ()) ∧ Ext w w_ ∧ Own el3 w_ w.heap.size A100 c101 xs99 ∧ Own el4 w_ w.heap.size (some (⟨g41, 0, none⟩ : Addr)) ((IntKind.wrap .i64 (((xs0.length : Nat) : Int) + 1)).toNat) xs102 ∧ ((IntKind.wrap .i64 (((xs0.length : Nat) : Int) + 1)).toNat) = xs102.length ∧ Own el3 w_ w.heap.size A26 c27 r21 ∧ Apart2 A26 A100, ⟨m162, r46, (List.replicate ((IntKind.wrap .i64 (((xs0.length : Nat) : Int) + 1)).toNat) (default : Bool)), A51, c52, rfl, hJ161, hB, O5, O4, (by first | rfl | assumption | (simp; done) | (simp; omega) | (simp; assumption)), O2, N2_5⟩, ?_⟩
    rintro m104 _ w108 ⟨xs99, xs102, A100, c101, rfl, hJ163, hB, O9, O4, hn103, O2, N2_9⟩
    have H := hS106 m104 _ hJ163
    clear hS106 hJ163
    try dsimp only at H ⊢
    refine bcase_mk (fun hc159 => ?_) (fun hc159 => ?_)
    · have H := (bcase_iff.1 H).1 hc159
      obtain ⟨⟨h0_112, h1_113⟩, H⟩ := H
      obtain ⟨a110, ha111, hat109⟩ := Row.at O9.row h0_112 h1_113
      refine ⟨h0_112, h1_113, a110, ha111, ?_⟩
      refine ⟨_, (hat109 0 _ rfl), ?_⟩
      obtain ⟨⟨hl114, hl115⟩, H⟩ := H
      refine and_assoc.1 ⟨⟨hl114, hl115⟩, ?_⟩
      rw [show (xs99.length - ((1 : Int).toNat)) = ((List.drop ((1 : Int).toNat) xs99)).length from by first | rfl | (simp; done) | (simp; omega)]
      have O10 := (O9.drop (l := ((1 : Int).toNat)) (by first | omega | (simp; done) | (simp; omega)))
      obtain ⟨⟨h0_119, h1_120⟩, H⟩ := H
      obtain ⟨a117, ha118, hat116⟩ := Row.at O4.row h0_119 h1_120
      refine ⟨h0_119, (by first | exact h1_120 | omega | (simp at h1_120 ⊢; omega)), a117, ha118, ?_⟩
      refine ⟨_, (hat116 0 _ rfl), ?_⟩
      refine bcase_mk (fun hc151 => ?_) (fun hc151 => ?_)
      · have H := (bcase_iff.1 H).1 hc151
        obtain ⟨m121, hm122, hJ123⟩ := H
        exact ⟨m121, hm122, (List.drop ((1 : Int).toNat) xs99), xs102, (cutA c101 ((1 : Int).toNat) A100 1), (c101 - ((1 : Int).toNat)), rfl, hJ123, hB, O10, O4, (by first | rfl | assumption | (simp; done) | (simp; omega) | (simp; assumption)), O2, (cutApart2 N2_9.symm).symm⟩
      · have H := (bcase_iff.1 H).2 hc151
        refine bcase_mk (fun hc150 => ?_) (fun hc150 => ?_)
        · have H := (bcase_iff.1 H).1 hc150
          obtain ⟨m124, hm125, hJ126⟩ := H
          exact ⟨m124, hm125, (List.drop ((1 : Int).toNat) xs99), xs102, (cutA c101 ((1 : Int).toNat) A100 1), (c101 - ((1 : Int).toNat)), rfl, hJ126, hB, O10, O4, (by first | rfl | assumption | (simp; done) | (simp; omega) | (simp; assumption)), O2, (cutApart2 N2_9.symm).symm⟩
        · have H := (bcase_iff.1 H).2 hc150
          obtain ⟨⟨h0_130, h1_131⟩, H⟩ := H
          obtain ⟨a128, ha129, hat127⟩ := Row.at O4.row h0_130 h1_131
          refine ⟨h0_130, (by first | exact h1_131 | omega | (simp at h1_131 ⊢; omega)), a128, ha129, ?_⟩
          refine Own.storeAt O4 ha129 h0_130 h1_131 0 [(.bool true)] true rfl (Nat.le_of_ble_eq_true rfl) rfl (fun w132 P4 e133 hb134 => ?_)
          have O2_ := O2.chg e133 ((N2_4).left ha129)
          have O9_ := O9.chg e133 (((Own.apart2_type O9 O4 (by decide))).left ha129)
          have O10_ := O10.chg e133 (((cutApart2 (Own.apart2_type O9 O4 (by decide)))).left ha129)
          have O2 := O2_
          have O9 := O9_
          have O10 := O10_
          have hB := echg hB e133 hb134
          have O4 := P4
          obtain ⟨hp137, H⟩ := H
          obtain ⟨r135, hr136⟩ : ∃ r_, r_ = M.spec_l07Next xs0 (rd xs99 0) := ⟨_, rfl⟩
          have H := H r135 hr136
          refine (spec_l07Next.con hp137 hr136 (R0.ext hB) hc0).mono ?_
          rintro _ w138 ⟨A140, c141, rfl, P11, e139⟩
          have N2_11 := Own.apart2_new O2 P11 (Nat.le_refl _)
          have N4_11 := Own.apart2_new O4 P11 (Nat.le_refl _)
          have N9_11 := Own.apart2_new O9 P11 (Nat.le_refl _)
          have N10_11 := Own.apart2_new O10 P11 (Nat.le_refl _)
          have O2 := O2.ext e139
          have O4 := O4.ext e139
          have O9 := O9.ext e139
          have O10 := O10.ext e139
          have O11 := P11.mono hB.size
          have hB := ethen hB e139
          refine ⟨A140, r135.length, c141, rfl, ?_⟩
          obtain ⟨hl146, H⟩ := H
          refine appOwn slt24 slt24.under O10 O11.row hB.size rfl rfl hl146 (fun A142 c143 w144 P10 e145 => ?_)
          have N2_10_ := Apart2.app (cutApart2 N2_9.symm).symm e145 O2
          have O2 := O2.app e145 (cutApart2 N2_9.symm).symm
          have N4_10_ := Apart2.app (cutApart2 (Own.apart2_type O4 O9 (by decide)).symm).symm e145 O4
          have O4 := O4.app e145 (cutApart2 (Own.apart2_type O4 O9 (by decide)).symm).symm
          have N11_10_ := Apart2.app (N10_11).symm e145 O11
          have O11 := O11.app e145 (N10_11).symm
          have N2_10 := N2_10_
          have N4_10 := N4_10_
          have N11_10 := N11_10_
          have hB := eapp hB e145 O10
          have O10 := P10
          obtain ⟨m147, hm148, hJ149⟩ := H
          exact ⟨m147, hm148, ((List.drop ((1 : Int).toNat) xs99) ++ r135), (List.set xs102 ((rd xs99 0).toNat) true), A142, c143, rfl, hJ149, hB, O10, O4, (by first | rfl | assumption | (simp; done) | (simp; omega) | (simp; assumption)), O2, N2_10⟩
    · have H := (bcase_iff.1 H).2 hc159
      obtain ⟨hp154, H⟩ := H
      obtain ⟨r152, hr153⟩ : ∃ r_, r_ = M.spec_l07Marked xs102 := ⟨_, rfl⟩
      have H := H r152 hr153
      refine (cllArgs (by first | (simp only [List.length_set, ← hn103]; done) | (simp; done)) (spec_l07Marked.con hp154 hr153 O4.row O4.le)).mono ?_
      rintro _ w155 ⟨A157, c158, rfl, P12, e156⟩
      have N2_12 := Own.apart2_new O2 P12 (Nat.le_refl _)
      have N4_12 := Own.apart2_new O4 P12 (Nat.le_refl _)
      have N9_12 := Own.apart2_new O9 P12 (Nat.le_refl _)
      have O2 := O2.ext e156
      have O4 := O4.ext e156
      have O9 := O9.ext e156
      have O12 := P12.mono hB.size
      have hB := ethen hB e156
      refine ⟨A157, r152.length, c158, rfl, ?_⟩
      obtain rfl := hr.trans H.symm
      exact ⟨A157, c158, rfl, O12, hB⟩

def spec_BarriersSafe.vc (A0 : Option Addr) (n0 : Nat) (c0 : Nat) (w : World) (K : Value → World → Prop) : Prop :=
  Cll Try.prog 72 #[(.slice A0 n0 c0)] w fun v21 w22 => (∃ (A23 : Option Addr) (n24 : Nat) (c25 : Nat), v21 = (.slice A23 n24 c25) ∧ LoopT (σ := Int × Unit) (fun z26 w27 next28 => bcase (decide (z26.1 < ((n24 : Nat) : Int))) (((0 : Int) ≤ z26.1 ∧ z26.1 < ((n24 : Nat) : Int) ∧ ∃ a29 : Addr, A23 = some a29 ∧ ∃ (n30 : Int), w27.cell? ((a29.add ((z26.1.toNat) * 1)).add 0) = some (.int .i64 n30) ∧ Cll Try.prog 73 #[(.slice A0 n0 c0), (.int .i64 n30)] w27 fun v31 w32 => (∃ (A33 : Option Addr) (n34 : Nat) (c35 : Nat), v31 = (.slice A33 n34 c35) ∧ LoopT (σ := Int × Unit) (fun z36 w37 next38 => bcase (decide (z36.1 < ((n34 : Nat) : Int))) (((0 : Int) ≤ z36.1 ∧ z36.1 < ((n34 : Nat) : Int) ∧ ∃ a39 : Addr, A33 = some a39 ∧ ∃ (n40 : Int), w37.cell? ((a39.add ((z36.1.toNat) * 1)).add 0) = some (.int .i64 n40) ∧ bcase (decide (n40 < ((n0 : Nat) : Int))) (((0 : Int) ≤ z36.1 ∧ z36.1 < ((n34 : Nat) : Int) ∧ ∃ a41 : Addr, A33 = some a41 ∧ ∃ (n42 : Int), w37.cell? ((a41.add ((z36.1.toNat) * 1)).add 0) = some (.int .i64 n42) ∧ ((0 : Int) ≤ n42 ∧ n42 < ((n0 : Nat) : Int) ∧ ∃ a43 : Addr, A0 = some a43 ∧ ∃ (n44 : Int), w37.cell? (((a43.add ((n42.toNat) * 4)).add 0).add 0) = some (.int .i64 n44) ∧ bcase (n44 == 16) (K (.bool false) w37) (next38 ((IntKind.wrap .i64 (z36.1 + 1)), ()) w37)))) (next38 ((IntKind.wrap .i64 (z36.1 + 1)), ()) w37))) (next28 ((IntKind.wrap .i64 (z26.1 + 1)), ()) w37)) (0, ()) w32))) (Cll Try.prog 74 #[(.slice A0 n0 c0)] w27 fun v45 w46 => (∃ (b47 : Bool), v45 = (.bool b47) ∧ K (.bool b47) w46))) (0, ()) w22)

def spec_BarriersSafe.ann : Ann := (.seq .l (.seq .l (.seq (.seq .l (.one (.loop [(4, .int .i64)] (.seq (.seq .l (.two .l .l)) (.seq (.one (.seq .l (.seq .l (.one (.loop [(6, .int .i64)] (.seq (.seq .l (.two .l .l)) (.seq (.one (.seq .l (.two (.seq .l .l) .l))) .l))))))) .l))))) (.seq .l .l))))

theorem spec_BarriersSafe.vc_eq (A0 : Option Addr) (n0 : Nat) (c0 : Nat) (w : World) (K : Value → World → Prop) : vcF Try.prog Try.f30 spec_BarriersSafe.ann [(.slice A0 n0 c0)] K w = spec_BarriersSafe.vc A0 n0 c0 w K := by kernel_rfl

theorem spec_BarriersSafe.start {A0 : Option Addr} {n0 : Nat} {c0 : Nat} {w : World} {K : Value → World → Prop} (h : spec_BarriersSafe.vc A0 n0 c0 w K) : Cll Try.prog 30 #[(.slice A0 n0 c0)] w K :=
  vcF_sound mixed (fn := Try.f30) (by kernel_rfl) (by kernel_rfl) (an := spec_BarriersSafe.ann) (args := [(.slice A0 n0 c0)]) (by rw [spec_BarriersSafe.vc_eq]; exact h)

theorem spec_BarriersSafe.con {xs0 : List D.Ins} {A0 : Option Addr} {c0 : Nat} {r : Bool} {w : World} (hp : M.spec_BarriersSafe_pre xs0) (hr : r = M.spec_BarriersSafe xs0) (R0 : Row el76 w A0 xs0) (hc0 : xs0.length ≤ c0) :
    Cll Try.prog 30 #[(.slice A0 xs0.length c0)] w (fun v_ w_ => v_ = (.bool r) ∧ Ext w w_) := by
  have H := wp.spec_BarriersSafe.math xs0 hp
  have hB := Ext.refl w
  refine spec_BarriersSafe.start ?_
  unfold spec_BarriersSafe.vc
  unfold wp.spec_BarriersSafe at H
  obtain ⟨hp23, H⟩ := H
  obtain ⟨r21, hr22⟩ : ∃ r_, r_ = M.spec_BranchesOf xs0 := ⟨_, rfl⟩
  have H := H r21 hr22
  refine (spec_BranchesOf.con hp23 hr22 (R0.ext hB) hc0).mono ?_
  rintro _ w24 ⟨A26, c27, rfl, P2, e25⟩
  have O2 := P2.mono hB.size
  have hB := ethen hB e25
  refine ⟨A26, r21.length, c27, rfl, ?_⟩
  obtain ⟨J30, ⟨m91, hJ90⟩, hS31⟩ := H
  refine ⟨fun m_ z_ w_ => ∃ (i28 : Int), z_ = (i28, ()) ∧ J30 m_ (i28, ()) ∧ Ext w w_ ∧ Own el3 w_ w.heap.size A26 c27 r21, ⟨m91, 0, rfl, hJ90, hB, O2⟩, ?_⟩
  rintro m29 _ w33 ⟨i28, rfl, hJ92, hB, O2⟩
  have H := hS31 m29 _ hJ92
  clear hS31 hJ92
  try dsimp only at H ⊢
  refine bcase_mk (fun hc88 => ?_) (fun hc88 => ?_)
  · have H := (bcase_iff.1 H).1 hc88
    obtain ⟨⟨h0_37, h1_38⟩, H⟩ := H
    obtain ⟨a35, ha36, hat34⟩ := Row.at O2.row h0_37 h1_38
    refine ⟨h0_37, h1_38, a35, ha36, ?_⟩
    refine ⟨_, (hat34 0 _ rfl), ?_⟩
    obtain ⟨hp41, H⟩ := H
    obtain ⟨r39, hr40⟩ : ∃ r_, r_ = M.spec_InsideOf xs0 (rd r21 i28) := ⟨_, rfl⟩
    have H := H r39 hr40
    refine (spec_InsideOf.con hp41 hr40 (R0.ext hB) hc0).mono ?_
    rintro _ w42 ⟨A44, c45, rfl, P3, e43⟩
    have N2_3 := Own.apart2_new O2 P3 (Nat.le_refl _)
    have O2 := O2.ext e43
    have O3 := P3.mono hB.size
    have hB := ethen hB e43
    refine ⟨A44, r39.length, c45, rfl, ?_⟩
    obtain ⟨J48, ⟨m81, hJ80⟩, hS49⟩ := H
    refine ⟨fun m_ z_ w_ => ∃ (i46 : Int), z_ = (i46, ()) ∧ J48 m_ (i46, ()) ∧ Ext w w_ ∧ Own el3 w_ w.heap.size A26 c27 r21 ∧ Own el3 w_ w.heap.size A44 c45 r39, ⟨m81, 0, rfl, hJ80, hB, O2, O3⟩, ?_⟩
    rintro m47 _ w51 ⟨i46, rfl, hJ82, hB, O2, O3⟩
    have H := hS49 m47 _ hJ82
    clear hS49 hJ82
    try dsimp only at H ⊢
    refine bcase_mk (fun hc78 => ?_) (fun hc78 => ?_)
    · have H := (bcase_iff.1 H).1 hc78
      obtain ⟨⟨h0_55, h1_56⟩, H⟩ := H
      obtain ⟨a53, ha54, hat52⟩ := Row.at O3.row h0_55 h1_56
      refine ⟨h0_55, h1_56, a53, ha54, ?_⟩
      refine ⟨_, (hat52 0 _ rfl), ?_⟩
      refine bcase_mk (fun hc74 => ?_) (fun hc74 => ?_)
      · have H := (bcase_iff.1 H).1 hc74
        obtain ⟨⟨h0_60, h1_61⟩, H⟩ := H
        obtain ⟨a58, ha59, hat57⟩ := Row.at O3.row h0_60 h1_61
        refine ⟨h0_60, h1_61, a58, ha59, ?_⟩
        refine ⟨_, (hat57 0 _ rfl), ?_⟩
        obtain ⟨⟨h0_65, h1_66⟩, H⟩ := H
        obtain ⟨a63, ha64, hat62⟩ := Row.at (R0.ext hB) h0_65 h1_66
        refine ⟨h0_65, h1_66, a63, ha64, ?_⟩
        refine ⟨_, (hat62 0 _ rfl), ?_⟩
        refine bcase_mk (fun hc70 => ?_) (fun hc70 => ?_)
        · have H := (bcase_iff.1 H).1 hc70
          obtain rfl := hr.trans H.symm
          exact ⟨rfl, hB⟩
        · have H := (bcase_iff.1 H).2 hc70
          obtain ⟨m67, hm68, hJ69⟩ := H
          exact ⟨m67, hm68, (IntKind.wrap .i64 (i46 + 1)), rfl, hJ69, hB, O2, O3⟩
      · have H := (bcase_iff.1 H).2 hc74
        obtain ⟨m71, hm72, hJ73⟩ := H
        exact ⟨m71, hm72, (IntKind.wrap .i64 (i46 + 1)), rfl, hJ73, hB, O2, O3⟩
    · have H := (bcase_iff.1 H).2 hc78
      obtain ⟨m75, hm76, hJ77⟩ := H
      exact ⟨m75, hm76, (IntKind.wrap .i64 (i28 + 1)), rfl, hJ77, hB, O2⟩
  · have H := (bcase_iff.1 H).2 hc88
    obtain ⟨hp85, H⟩ := H
    obtain ⟨r83, hr84⟩ : ∃ r_, r_ = M.spec_ProgramOk xs0 := ⟨_, rfl⟩
    have H := H r83 hr84
    refine (spec_ProgramOk.con hp85 hr84 (R0.ext hB) hc0).mono ?_
    rintro _ w86 ⟨rfl, e87⟩
    have O2 := O2.ext e87
    have hB := ethen hB e87
    refine ⟨r83, rfl, ?_⟩
    obtain rfl := hr.trans H.symm
    exact ⟨rfl, hB⟩

end Go.V
