import Derived.Test.YtkacokecjojkoaaGreatKSsCon2
namespace Go.V
open Go.Proofs
set_option linter.unusedVariables false
set_option linter.unusedSimpArgs false
set_option maxRecDepth 100000
def impl_WarpOk.vc (A0 : Option Addr) (n0 : Nat) (c0 : Nat) (x1_0 : Int) (A1_1 : Option Addr) (n1_1 : Nat) (c1_1 : Nat) (A1_2 : Option Addr) (n1_2 : Nat) (c1_2 : Nat) (w : World) (K : Value → World → Prop) : Prop :=
  newK w (.cells #[(.int .i64 x1_0), (.slice A1_1 n1_1 c1_1), (.slice A1_2 n1_2 c1_2)] 31) fun g21 w22 => Cll Tryz.prog 140 #[(.slice A0 n0 c0)] w22 fun v23 w24 => (∃ (b25 : Bool), v23 = (.bool b25) ∧ bcase b25 (∃ (n26 : Int), w24.cell? ((⟨g21, 0, none⟩ : Addr).add 0) = some (.int .i64 n26) ∧ ∃ (A27 : Option Addr) (n28 : Nat) (c29 : Nat), w24.cell? ((⟨g21, 0, none⟩ : Addr).add 1) = some (.slice A27 n28 c29) ∧ ∃ (A30 : Option Addr) (n31 : Nat) (c32 : Nat), w24.cell? ((⟨g21, 0, none⟩ : Addr).add 2) = some (.slice A30 n31 c32) ∧ Cll Tryz.prog 144 #[(.slice A0 n0 c0), (.agg #[(.int .i64 n26), (.slice A27 n28 c29), (.slice A30 n31 c32)])] w24 fun v33 w34 => (∃ (b35 : Bool), v33 = (.bool b35) ∧ K (.bool b35) w34)) (K (.bool false) w24))

def impl_WarpOk.ann : Ann := (.seq .l (.seq .l .l))

theorem impl_WarpOk.start {A0 : Option Addr} {n0 : Nat} {c0 : Nat} {x1_0 : Int} {A1_1 : Option Addr} {n1_1 : Nat} {c1_1 : Nat} {A1_2 : Option Addr} {n1_2 : Nat} {c1_2 : Nat} {w : World} {K : Value → World → Prop} (h : impl_WarpOk.vc A0 n0 c0 x1_0 A1_1 n1_1 c1_1 A1_2 n1_2 c1_2 w K) : Cll Tryz.prog 74 #[(.slice A0 n0 c0), (.agg #[(.int .i64 x1_0), (.slice A1_1 n1_1 c1_1), (.slice A1_2 n1_2 c1_2)])] w K :=
  vcF_sound mixed (fn := Tryz.f74) (by kernel_rfl) (by kernel_rfl) (an := impl_WarpOk.ann) (args := [(.slice A0 n0 c0), (.agg #[(.int .i64 x1_0), (.slice A1_1 n1_1 c1_1), (.slice A1_2 n1_2 c1_2)])]) (Eq.mpr (by kernel_rfl) h)

theorem impl_WarpOk.con {xs0 : List D.Ins} {A0 : Option Addr} {c0 : Nat} {s1 : D.Warp} {A1_1 : Option Addr} {c1_1 : Nat} {A1_2 : Option Addr} {c1_2 : Nat} {r : Bool} {w : World} (hp : M.impl_WarpOk_pre xs0 s1) (hr : r = M.impl_WarpOk xs0 s1) (R0 : Row el89 w A0 xs0) (hc0 : xs0.length ≤ c0) (R1_1 : Row el130 w A1_1 s1.Frames) (hc1_1 : s1.Frames.length ≤ c1_1) (R1_2 : Row el3 w A1_2 s1.Regs) (hc1_2 : s1.Regs.length ≤ c1_2) :
    Cll Tryz.prog 74 #[(.slice A0 xs0.length c0), (.agg #[(.int .i64 s1.Number), (.slice A1_1 s1.Frames.length c1_1), (.slice A1_2 s1.Regs.length c1_2)])] w (fun v_ w_ => v_ = (.bool r) ∧ Ext w w_) := by
  have H := wp.impl_WarpOk.math xs0 s1 hp
  have hB := Ext.refl w
  refine impl_WarpOk.start ?_
  unfold impl_WarpOk.vc
  unfold wp.impl_WarpOk at H
  refine newBlk (fun g4_ w21 L4 P4 e22 => ?_)
  have O4 := P4
  have L4 := Nat.le_trans hB.size L4
  have hB := ethen hB e22
  obtain ⟨hp25, H⟩ := H
  obtain ⟨r23, hr24⟩ : ∃ r_, r_ = M.impl_ProgramOk xs0 := ⟨_, rfl⟩
  have H := H r23 hr24
  refine (impl_ProgramOk.con hp25 hr24 (R0.ext hB) hc0).mono ?_
  rintro _ w26 ⟨rfl, e27⟩
  have O4 := O4.ext e27
  have hB := ethen hB e27
  refine ⟨r23, rfl, ?_⟩
  refine bcase_mk (fun hc33 => ?_) (fun hc33 => ?_)
  · have H := (bcase_iff.1 H).1 hc33
    refine ⟨_, (O4.at 0 rfl rfl), ?_⟩
    refine ⟨_, _, _, (O4.at 1 rfl rfl), ?_⟩
    refine ⟨_, _, _, (O4.at 2 rfl rfl), ?_⟩
    obtain ⟨hp30, H⟩ := H
    obtain ⟨r28, hr29⟩ : ∃ r_, r_ = M.impl_isWarpOf xs0 s1 := ⟨_, rfl⟩
    have H := H r28 hr29
    refine (impl_isWarpOf.con hp30 hr29 (R0.ext hB) hc0 (R1_1.ext hB) hc1_1 (R1_2.ext hB) hc1_2).mono ?_
    rintro _ w31 ⟨rfl, e32⟩
    have O4 := O4.ext e32
    have hB := ethen hB e32
    refine ⟨r28, rfl, ?_⟩
    obtain rfl := hr.trans H.symm
    exact ⟨rfl, hB⟩
  have H := (bcase_iff.1 H).2 hc33
  obtain rfl := hr.trans H.symm
  exact ⟨rfl, hB⟩
def impl_Warp_separate.vc (p0 : Addr) (A1 : Option Addr) (n1 : Nat) (c1 : Nat) (w : World) (K : Value → World → Prop) : Prop :=
  ∃ (A21 : Option Addr) (n22 : Nat) (c23 : Nat), w.cell? ((p0.add 1).add 0) = some (.slice A21 n22 c23) ∧ bcase (decide ((IntKind.wrap .i64 (((n22 : Nat) : Int) + 2)) > 24)) (K (.bool false) w) (∃ (A24 : Option Addr) (n25 : Nat) (c26 : Nat), w.cell? ((p0.add 1).add 0) = some (.slice A24 n25 c26) ∧ ∃ (A27 : Option Addr) (n28 : Nat) (c29 : Nat), w.cell? ((p0.add 1).add 0) = some (.slice A27 n28 c29) ∧ ((0 : Int) ≤ (IntKind.wrap .i64 (((n28 : Nat) : Int) - 1)) ∧ (IntKind.wrap .i64 (((n28 : Nat) : Int) - 1)) < ((n25 : Nat) : Int) ∧ ∃ a30 : Addr, A24 = some a30 ∧ ∃ (n31 : Int), w.drew.cell? (((a30.add (((IntKind.wrap .i64 (((n28 : Nat) : Int) - 1)).toNat) * 3)).add 0).add 0) = some (.int .i64 n31) ∧ ∃ (n32 : Int), w.drew.cell? (((a30.add (((IntKind.wrap .i64 (((n28 : Nat) : Int) - 1)).toNat) * 3)).add 2).add 0) = some (.int .i64 n32) ∧ (∃ M33 : Nat → Prop, ∃ (n34 : Int), (¬ M33 (p0).block ∧ w.drew.drew.cell? (p0.add 0) = some (.int .i64 n34)) ∧ ∃ (A35 : Option Addr) (n36 : Nat) (c37 : Nat), (¬ M33 (p0).block ∧ w.drew.drew.cell? (p0.add 1) = some (.slice A35 n36 c37)) ∧ ∃ (A38 : Option Addr) (n39 : Nat) (c40 : Nat), (¬ M33 (p0).block ∧ w.drew.drew.cell? (p0.add 2) = some (.slice A38 n39 c40)) ∧ ((0 : Int) ≤ n31 ∧ n31 < ((n1 : Nat) : Int) ∧ ∃ a41 : Addr, A1 = some a41 ∧ ∃ (n42 : Int), (¬ M33 (((a41.add ((n31.toNat) * 4)).add 1)).block ∧ w.drew.drew.cell? (((a41.add ((n31.toNat) * 4)).add 1).add 0) = some (.int .i64 n42)) ∧ Cll Tryz.prog 155 #[(.agg #[(.int .i64 n34), (.slice A35 n36 c37), (.slice A38 n39 c40)]), (.int .i64 n42)] w.drew.drew.drew fun v43 w44 => (∃ (n45 : Int), v43 = (.int .i64 n45) ∧ SameBut M33 w.drew.drew w44 ∧ Cll Tryz.prog 200 #[(.slice A1 n1 c1), (.int .i64 n31)] w44 fun v46 w47 => (∃ (n48 : Int), v46 = (.int .i64 n48) ∧ stCells ((a30.add (((IntKind.wrap .i64 (((n28 : Nat) : Int) - 1)).toNat) * 3)).add 0) [(.int .i64 n48)] 0 w47 fun w49 => ((0 : Int) ≤ n31 ∧ n31 < ((n1 : Nat) : Int) ∧ ∃ a50 : Addr, A1 = some a50 ∧ ((∃ (A51 : Option Addr) (n52 : Nat) (c53 : Nat), w49.drew.cell? ((p0.add 1).add 0) = some (.slice A51 n52 c53) ∧ ((∃ (n54 : Int), w49.drew.cell? (((a50.add ((n31.toNat) * 4)).add 2).add 0) = some (.int .i64 n54) ∧ ((Run Tryz.prog (Instr.buildSlice 29 2 #[(0, (.agg #[(.int .i64 (IntKind.wrap .i64 (n31 + 1))), (.int .i64 n48), (.int .i64 (bitNot .i64 n32 n45))])), (1, (.agg #[(.int .i64 n54), (.int .i64 n48), (.int .i64 n45)]))]) w49.drew fun v55 w56 => ∃ (A57 : Option Addr) (n58 c59 : Nat), v55 = .slice A57 n58 c59 ∧ ((Run Tryz.prog (Builtin.append_ #[29, 29] 29 #[(.slice A51 n52 c53), (.slice A57 n58 c59)]) w56 fun v60 w61 => ∃ (A62 : Option Addr) (n63 c64 : Nat), v60 = .slice A62 n63 c64 ∧ ((stCells (p0.add 1) [(.slice A62 n63 c64)] 0 w61 fun w65 => K (.bool true) w65) ∧ True)) ∧ True)) ∧ True)) ∧ True)) ∧ (∃ (n66 : Int), w49.drew.cell? (((a50.add ((n31.toNat) * 4)).add 2).add 0) = some (.int .i64 n66) ∧ ((∃ (A67 : Option Addr) (n68 : Nat) (c69 : Nat), w49.drew.cell? ((p0.add 1).add 0) = some (.slice A67 n68 c69) ∧ ((Run Tryz.prog (Instr.buildSlice 29 2 #[(0, (.agg #[(.int .i64 (IntKind.wrap .i64 (n31 + 1))), (.int .i64 n48), (.int .i64 (bitNot .i64 n32 n45))])), (1, (.agg #[(.int .i64 n66), (.int .i64 n48), (.int .i64 n45)]))]) w49.drew fun v70 w71 => ∃ (A72 : Option Addr) (n73 c74 : Nat), v70 = .slice A72 n73 c74 ∧ ((Run Tryz.prog (Builtin.append_ #[29, 29] 29 #[(.slice A67 n68 c69), (.slice A72 n73 c74)]) w71 fun v75 w76 => ∃ (A77 : Option Addr) (n78 c79 : Nat), v75 = .slice A77 n78 c79 ∧ ((stCells (p0.add 1) [(.slice A77 n78 c79)] 0 w76 fun w80 => K (.bool true) w80) ∧ True)) ∧ True)) ∧ True)) ∧ (Run Tryz.prog (Instr.buildSlice 29 2 #[(0, (.agg #[(.int .i64 (IntKind.wrap .i64 (n31 + 1))), (.int .i64 n48), (.int .i64 (bitNot .i64 n32 n45))])), (1, (.agg #[(.int .i64 n66), (.int .i64 n48), (.int .i64 n45)]))]) w49.drew fun v81 w82 => ∃ (A83 : Option Addr) (n84 c85 : Nat), v81 = .slice A83 n84 c85 ∧ ((∃ (A86 : Option Addr) (n87 : Nat) (c88 : Nat), w82.cell? ((p0.add 1).add 0) = some (.slice A86 n87 c88) ∧ ((Run Tryz.prog (Builtin.append_ #[29, 29] 29 #[(.slice A86 n87 c88), (.slice A83 n84 c85)]) w82 fun v89 w90 => ∃ (A91 : Option Addr) (n92 c93 : Nat), v89 = .slice A91 n92 c93 ∧ ((stCells (p0.add 1) [(.slice A91 n92 c93)] 0 w90 fun w94 => K (.bool true) w94) ∧ True)) ∧ True)) ∧ True)) ∧ True)) ∧ True))))))))

def impl_Warp_separate.ann : Ann := (.seq .l (.seq (.seq .l (.two (.seq .l .l) .l)) (.seq .l (.seq .l (.seq .l (.seq .l (.seq .l (.seq .each (.seq .l .l)))))))))

theorem impl_Warp_separate.start {p0 : Addr} {A1 : Option Addr} {n1 : Nat} {c1 : Nat} {w : World} {K : Value → World → Prop} (h : impl_Warp_separate.vc p0 A1 n1 c1 w K) : Cll Tryz.prog 145 #[(.pointer (some p0)), (.slice A1 n1 c1)] w K :=
  vcF_sound mixed (fn := Tryz.f145) (by kernel_rfl) (by kernel_rfl) (an := impl_Warp_separate.ann) (args := [(.pointer (some p0)), (.slice A1 n1 c1)]) (Eq.mpr (by kernel_rfl) h)

theorem impl_Warp_separate.con {s0 : D.Warp} {g1_ : Nat} {A0_1 : Option Addr} {c0_1 : Nat} {A0_2 : Option Addr} {c0_2 : Nat} {o1_ : Nat} {R1_ : Array Value} {xs1 : List D.Ins} {A1 : Option Addr} {c1 : Nat} {r : Bool × D.Warp} {w : World} (hp : M.impl_Warp_separate_pre s0 xs1) (hr : r = M.impl_Warp_separate s0 xs1) (O1 : Plc w g1_ o1_ 31 R1_ #[(.int .i64 s0.Number), (.slice A0_1 s0.Frames.length c0_1), (.slice A0_2 s0.Regs.length c0_2)]) (O2 : Own el130 w 0 A0_1 c0_1 s0.Frames) (R0_2 : Row el3 w A0_2 s0.Regs) (hc0_2 : s0.Regs.length ≤ c0_2) (R1 : Row el89 w A1 xs1) (hc1 : xs1.length ≤ c1) (D0_2 : s0.Regs ≠ [] → ∀ g, InB A0_2 g → ¬ (fun k_ => InB A0_1 k_ ∨ k_ = g1_) g) (D1 : xs1 ≠ [] → ∀ g, InB A1 g → ¬ (fun k_ => InB A0_1 k_ ∨ k_ = g1_) g) :
    Cll Tryz.prog 145 #[(.pointer (some (⟨g1_, o1_, none⟩ : Addr))), (.slice A1 xs1.length c1)] w (fun v_ w_ => ∃ (A0_ : Option Addr) (c0_ : Nat), v_ = (.bool r.1) ∧ Plc w_ g1_ o1_ 31 R1_ #[(.int .i64 r.2.Number), (.slice A0_ r.2.Frames.length c0_), (.slice A0_2 r.2.Regs.length c0_2)] ∧ Own el130 w_ 0 A0_ c0_ r.2.Frames ∧ Mov w A0_1 A0_ ∧ r.2.Regs = s0.Regs ∧ Chg (fun k_ => InB A0_1 k_ ∨ k_ = g1_) w w_) := by
  have H := wp.impl_Warp_separate.math s0 xs1 hp
  have hB := Chg.refl (fun k_ => InB A0_1 k_ ∨ k_ = g1_) w
  refine impl_Warp_separate.start ?_
  unfold impl_Warp_separate.vc
  unfold wp.impl_Warp_separate at H
  refine ⟨_, _, _, (O1.at 1 rfl rfl), ?_⟩
  refine bcase_mk (fun hc84 => ?_) (fun hc84 => ?_)
  · have H := (bcase_iff.1 H).1 hc84
    obtain rfl := hr.trans H.symm
    exact ⟨A0_1, c0_1, rfl, O1, (O2.mono (Nat.zero_le _)), (Mov.same _ _), rfl, hB⟩
  have H := (bcase_iff.1 H).2 hc84
  refine ⟨_, _, _, (O1.at 1 rfl rfl), ?_⟩
  refine ⟨_, _, _, (O1.at 1 rfl rfl), ?_⟩
  obtain ⟨⟨h0_25, h1_26⟩, H⟩ := H
  obtain ⟨a23, ha24, hat22⟩ := Row.at O2.row h0_25 h1_26
  refine ⟨h0_25, h1_26, a23, ha24, ?_⟩
  have O1 := O1.ext (Ext.drew _)
  have O2 := O2.ext (Ext.drew _)
  have hB := hB.then (Ext.drew _)
  have hat28 := Row.re O2.row ha24 h0_25 (by first | exact h1_26 | omega | (simp at h1_26 ⊢; omega))
  refine ⟨_, (hat28 0 _ rfl), ?_⟩
  have hat29 := Row.re O2.row ha24 h0_25 (by first | exact h1_26 | omega | (simp at h1_26 ⊢; omega))
  refine ⟨_, (hat29 2 _ rfl), ?_⟩
  have O1 := O1.ext (Ext.drew _)
  have O2 := O2.ext (Ext.drew _)
  have hB := hB.then (Ext.drew _)
  refine ⟨(fun _ => False), ?_⟩
  refine ⟨_, ⟨(fun h_ => h_), (O1.at 0 rfl rfl)⟩, ?_⟩
  refine ⟨_, _, _, ⟨(fun h_ => h_), (O1.at 1 rfl rfl)⟩, ?_⟩
  refine ⟨_, _, _, ⟨(fun h_ => h_), (O1.at 2 rfl rfl)⟩, ?_⟩
  obtain ⟨⟨h0_34, h1_35⟩, H⟩ := H
  obtain ⟨a32, ha33, hat31⟩ := Row.at (R1.chgS hB D1) h0_34 h1_35
  refine ⟨h0_34, h1_35, a32, ha33, ?_⟩
  refine ⟨_, ⟨(fun h_ => h_), (hat31 1 _ rfl)⟩, ?_⟩
  have hS30 := Chg.refl (fun _ => False) w.drew.drew
  have O1 := O1.ext (Ext.drew _)
  have O2 := O2.ext (Ext.drew _)
  have hB := hB.then (Ext.drew _)
  have hS30 := hS30.then (Ext.drew _)
  obtain ⟨hp38, H⟩ := H
  obtain ⟨r36, hr37⟩ : ∃ r_, r_ = M.impl_Warp_zeroMask s0 ((rd xs1 ((rd s0.Frames (IntKind.wrap .i64 (((s0.Frames.length : Nat) : Int) - 1))).Pc)).A) := ⟨_, rfl⟩
  have H := H r36 hr37
  refine (impl_Warp_zeroMask.con hp38 hr37 O2.row O2.le (R0_2.chgS hB D0_2) hc0_2).mono ?_
  rintro _ w39 ⟨rfl, e40⟩
  have O1 := O1.ext e40
  have O2 := O2.ext e40
  have hB := hB.then e40
  have hS30 := hS30.then e40
  refine ⟨r36, rfl, ?_⟩
  refine ⟨sameBut_chg hS30, ?_⟩
  obtain ⟨hp43, H⟩ := H
  obtain ⟨r41, hr42⟩ : ∃ r_, r_ = M.impl_JoinOf xs1 ((rd s0.Frames (IntKind.wrap .i64 (((s0.Frames.length : Nat) : Int) - 1))).Pc) := ⟨_, rfl⟩
  have H := H r41 hr42
  refine (impl_JoinOf.con hp43 hr42 (R1.chgS hB D1) hc1).mono ?_
  rintro _ w44 ⟨rfl, e45⟩
  have O1 := O1.ext e45
  have O2 := O2.ext e45
  have hB := hB.then e45
  refine ⟨r41, rfl, ?_⟩
  refine Own.storeAt O2 ha24 h0_25 h1_26 0 [(.int .i64 r41)] (⟨r41, (rd s0.Frames (IntKind.wrap .i64 (((s0.Frames.length : Nat) : Int) - 1))).Stop, (rd s0.Frames (IntKind.wrap .i64 (((s0.Frames.length : Nat) : Int) - 1))).Mask⟩ : D.Frame) rfl (Nat.le_of_ble_eq_true rfl) rfl (fun w46 P2 e47 hb48 => ?_)
  have O1_ := O1.chg e47 (fun h_ => ((O2.apart_type O1.b (by decide))) _ ha24 h_.symm)
  have O1 := O1_
  have hB := hB.chgb e47 (Or.inr (Or.inl ⟨_, ha24, rfl⟩))
  have O2 := P2
  have O1 := O1.ext (Ext.drew _)
  have O2 := O2.ext (Ext.drew _)
  have hB := hB.then (Ext.drew _)
  obtain ⟨⟨h0_52, h1_53⟩, H⟩ := H
  obtain ⟨a50, ha51, hat49⟩ := Row.at (R1.chgS hB D1) h0_52 h1_53
  refine ⟨h0_52, h1_53, a50, ha51, ?_⟩
  refine And.intro ?_ ?_
  · have H := H.1
    refine ⟨_, _, _, (O1.at 1 rfl rfl), ?_⟩
    refine and_t ?_
    refine ⟨_, (hat49 2 _ rfl), ?_⟩
    refine and_t ?_
    refine buildOwn el130 ([(⟨(IntKind.wrap .i64 ((rd s0.Frames (IntKind.wrap .i64 (((s0.Frames.length : Nat) : Int) - 1))).Pc + 1)), r41, (bitNot .i64 ((rd s0.Frames (IntKind.wrap .i64 (((s0.Frames.length : Nat) : Int) - 1))).Mask) r36)⟩ : D.Frame), (⟨(rd xs1 ((rd s0.Frames (IntKind.wrap .i64 (((s0.Frames.length : Nat) : Int) - 1))).Pc)).B, r41, r36⟩ : D.Frame)] : List D.Frame) (fun _ => by kernel_rfl) rfl (fun A54 w55 P5 e56 => ?_)
    have N5_1 := P5.apart_old O1.lt
    have N2_5 := Own.apart2_new O2 P5 (Nat.le_refl _)
    have O1 := O1.ext e56
    have O2 := O2.ext e56
    have O5 := P5.mono hB.size
    have hB := hB.then e56
    refine and_t ?_
    have O6 := O2
    have Mv6 := Mov.same w A0_1
    obtain ⟨hl61, H⟩ := H
    refine appOwnB slt29 slt29.under O6 O5.row (Nat.zero_le _) (by first | rfl | omega | (simp; done) | (simp; omega)) (by first | rfl | omega | (simp; done) | (simp; omega)) hl61 (fun A57 c58 w59 P6 e60 => ?_)
    have N6_1_ := Apart.app (O6.apart_type O1.b (by decide)) e60 O1.lt
    have O1 := O1.app e60 (O6.apart_type O1.b (by decide))
    have N5_6_ := Apart2.app (N2_5).symm e60 O5
    have O5 := O5.app e60 (N2_5).symm
    have N6_1 := N6_1_
    have N5_6 := N5_6_
    have Mw6 := Mov.trans Mv6 e60.blk hB.size
    have hB := hB.app e60 (fun g h_ => (mv_or Mv6 h_ (fun h_ => (Or.inl h_))))
    have O6 := P6
    refine and_t ?_
    refine stPlc O1 (j := 1) (cs' := #[(.int .i64 s0.Number), (.slice A57 ((((List.set s0.Frames ((IntKind.wrap .i64 (((s0.Frames.length : Nat) : Int) - 1)).toNat) (⟨r41, (rd s0.Frames (IntKind.wrap .i64 (((s0.Frames.length : Nat) : Int) - 1))).Stop, (rd s0.Frames (IntKind.wrap .i64 (((s0.Frames.length : Nat) : Int) - 1))).Mask⟩ : D.Frame)) ++ ([(⟨(IntKind.wrap .i64 ((rd s0.Frames (IntKind.wrap .i64 (((s0.Frames.length : Nat) : Int) - 1))).Pc + 1)), r41, (bitNot .i64 ((rd s0.Frames (IntKind.wrap .i64 (((s0.Frames.length : Nat) : Int) - 1))).Mask) r36)⟩ : D.Frame), (⟨(rd xs1 ((rd s0.Frames (IntKind.wrap .i64 (((s0.Frames.length : Nat) : Int) - 1))).Pc)).B, r41, r36⟩ : D.Frame)] : List D.Frame))).length) c58), (.slice A0_2 s0.Regs.length c0_2)]) rfl rfl (Nat.le_of_ble_eq_true rfl) rfl (fun w62 P1 e63 => ?_)
    have O5_ := O5.chg e63 N5_1
    have O6_ := O6.chg e63 N6_1
    have O5 := O5_
    have O6 := O6_
    have hB := hB.chgb e63 (Or.inr (Or.inr rfl))
    have O1 := P1
    obtain rfl := hr.trans H.symm
    exact ⟨A57, c58, rfl, O1, (O6.mono (Nat.zero_le _)), Mw6, rfl, hB⟩
  refine And.intro ?_ ?_
  · have H := H.2.1
    refine ⟨_, (hat49 2 _ rfl), ?_⟩
    refine And.intro ?_ ?_
    · have H := H.1
      refine ⟨_, _, _, (O1.at 1 rfl rfl), ?_⟩
      refine and_t ?_
      refine buildOwn el130 ([(⟨(IntKind.wrap .i64 ((rd s0.Frames (IntKind.wrap .i64 (((s0.Frames.length : Nat) : Int) - 1))).Pc + 1)), r41, (bitNot .i64 ((rd s0.Frames (IntKind.wrap .i64 (((s0.Frames.length : Nat) : Int) - 1))).Mask) r36)⟩ : D.Frame), (⟨(rd xs1 ((rd s0.Frames (IntKind.wrap .i64 (((s0.Frames.length : Nat) : Int) - 1))).Pc)).B, r41, r36⟩ : D.Frame)] : List D.Frame) (fun _ => by kernel_rfl) rfl (fun A64 w65 P7 e66 => ?_)
      have N7_1 := P7.apart_old O1.lt
      have N2_7 := Own.apart2_new O2 P7 (Nat.le_refl _)
      have O1 := O1.ext e66
      have O2 := O2.ext e66
      have O7 := P7.mono hB.size
      have hB := hB.then e66
      refine and_t ?_
      have O8 := O2
      have Mv8 := Mov.same w A0_1
      obtain ⟨hl71, H⟩ := H
      refine appOwnB slt29 slt29.under O8 O7.row (Nat.zero_le _) (by first | rfl | omega | (simp; done) | (simp; omega)) (by first | rfl | omega | (simp; done) | (simp; omega)) hl71 (fun A67 c68 w69 P8 e70 => ?_)
      have N8_1_ := Apart.app (O8.apart_type O1.b (by decide)) e70 O1.lt
      have O1 := O1.app e70 (O8.apart_type O1.b (by decide))
      have N7_8_ := Apart2.app (N2_7).symm e70 O7
      have O7 := O7.app e70 (N2_7).symm
      have N8_1 := N8_1_
      have N7_8 := N7_8_
      have Mw8 := Mov.trans Mv8 e70.blk hB.size
      have hB := hB.app e70 (fun g h_ => (mv_or Mv8 h_ (fun h_ => (Or.inl h_))))
      have O8 := P8
      refine and_t ?_
      refine stPlc O1 (j := 1) (cs' := #[(.int .i64 s0.Number), (.slice A67 ((((List.set s0.Frames ((IntKind.wrap .i64 (((s0.Frames.length : Nat) : Int) - 1)).toNat) (⟨r41, (rd s0.Frames (IntKind.wrap .i64 (((s0.Frames.length : Nat) : Int) - 1))).Stop, (rd s0.Frames (IntKind.wrap .i64 (((s0.Frames.length : Nat) : Int) - 1))).Mask⟩ : D.Frame)) ++ ([(⟨(IntKind.wrap .i64 ((rd s0.Frames (IntKind.wrap .i64 (((s0.Frames.length : Nat) : Int) - 1))).Pc + 1)), r41, (bitNot .i64 ((rd s0.Frames (IntKind.wrap .i64 (((s0.Frames.length : Nat) : Int) - 1))).Mask) r36)⟩ : D.Frame), (⟨(rd xs1 ((rd s0.Frames (IntKind.wrap .i64 (((s0.Frames.length : Nat) : Int) - 1))).Pc)).B, r41, r36⟩ : D.Frame)] : List D.Frame))).length) c68), (.slice A0_2 s0.Regs.length c0_2)]) rfl rfl (Nat.le_of_ble_eq_true rfl) rfl (fun w72 P1 e73 => ?_)
      have O7_ := O7.chg e73 N7_1
      have O8_ := O8.chg e73 N8_1
      have O7 := O7_
      have O8 := O8_
      have hB := hB.chgb e73 (Or.inr (Or.inr rfl))
      have O1 := P1
      obtain rfl := hr.trans H.symm
      exact ⟨A67, c68, rfl, O1, (O8.mono (Nat.zero_le _)), Mw8, rfl, hB⟩
    refine And.intro ?_ ?_
    · have H := H.2.1
      refine buildOwn el130 ([(⟨(IntKind.wrap .i64 ((rd s0.Frames (IntKind.wrap .i64 (((s0.Frames.length : Nat) : Int) - 1))).Pc + 1)), r41, (bitNot .i64 ((rd s0.Frames (IntKind.wrap .i64 (((s0.Frames.length : Nat) : Int) - 1))).Mask) r36)⟩ : D.Frame), (⟨(rd xs1 ((rd s0.Frames (IntKind.wrap .i64 (((s0.Frames.length : Nat) : Int) - 1))).Pc)).B, r41, r36⟩ : D.Frame)] : List D.Frame) (fun _ => by kernel_rfl) rfl (fun A74 w75 P9 e76 => ?_)
      have N9_1 := P9.apart_old O1.lt
      have N2_9 := Own.apart2_new O2 P9 (Nat.le_refl _)
      have O1 := O1.ext e76
      have O2 := O2.ext e76
      have O9 := P9.mono hB.size
      have hB := hB.then e76
      refine and_t ?_
      refine ⟨_, _, _, (O1.at 1 rfl rfl), ?_⟩
      refine and_t ?_
      have O10 := O2
      have Mv10 := Mov.same w A0_1
      obtain ⟨hl81, H⟩ := H
      refine appOwnB slt29 slt29.under O10 O9.row (Nat.zero_le _) (by first | rfl | omega | (simp; done) | (simp; omega)) (by first | rfl | omega | (simp; done) | (simp; omega)) hl81 (fun A77 c78 w79 P10 e80 => ?_)
      have N10_1_ := Apart.app (O10.apart_type O1.b (by decide)) e80 O1.lt
      have O1 := O1.app e80 (O10.apart_type O1.b (by decide))
      have N9_10_ := Apart2.app (N2_9).symm e80 O9
      have O9 := O9.app e80 (N2_9).symm
      have N10_1 := N10_1_
      have N9_10 := N9_10_
      have Mw10 := Mov.trans Mv10 e80.blk hB.size
      have hB := hB.app e80 (fun g h_ => (mv_or Mv10 h_ (fun h_ => (Or.inl h_))))
      have O10 := P10
      refine and_t ?_
      refine stPlc O1 (j := 1) (cs' := #[(.int .i64 s0.Number), (.slice A77 ((((List.set s0.Frames ((IntKind.wrap .i64 (((s0.Frames.length : Nat) : Int) - 1)).toNat) (⟨r41, (rd s0.Frames (IntKind.wrap .i64 (((s0.Frames.length : Nat) : Int) - 1))).Stop, (rd s0.Frames (IntKind.wrap .i64 (((s0.Frames.length : Nat) : Int) - 1))).Mask⟩ : D.Frame)) ++ ([(⟨(IntKind.wrap .i64 ((rd s0.Frames (IntKind.wrap .i64 (((s0.Frames.length : Nat) : Int) - 1))).Pc + 1)), r41, (bitNot .i64 ((rd s0.Frames (IntKind.wrap .i64 (((s0.Frames.length : Nat) : Int) - 1))).Mask) r36)⟩ : D.Frame), (⟨(rd xs1 ((rd s0.Frames (IntKind.wrap .i64 (((s0.Frames.length : Nat) : Int) - 1))).Pc)).B, r41, r36⟩ : D.Frame)] : List D.Frame))).length) c78), (.slice A0_2 s0.Regs.length c0_2)]) rfl rfl (Nat.le_of_ble_eq_true rfl) rfl (fun w82 P1 e83 => ?_)
      have O9_ := O9.chg e83 N9_1
      have O10_ := O10.chg e83 N10_1
      have O9 := O9_
      have O10 := O10_
      have hB := hB.chgb e83 (Or.inr (Or.inr rfl))
      have O1 := P1
      obtain rfl := hr.trans H.symm
      exact ⟨A77, c78, rfl, O1, (O10.mono (Nat.zero_le _)), Mw10, rfl, hB⟩
    exact trivial
  exact trivial
def impl_apply_v.vc (x0_0 : Int) (x0_1 : Int) (x0_2 : Int) (x0_3 : Int) (x1 : Int) (A2 : Option Addr) (n2 : Nat) (c2 : Nat) (w : World) (K : Value → World → Prop) : Prop :=
  newK w (.cells #[(.int .i64 x0_0), (.int .i64 x0_1), (.int .i64 x0_2), (.int .i64 x0_3)] 89) fun g21 w22 => ∃ (n23 : Int), w22.cell? (((⟨g21, 0, none⟩ : Addr).add 0).add 0) = some (.int .i64 n23) ∧ bcase (n23 == 1) (∃ (n24 : Int), w22.cell? (((⟨g21, 0, none⟩ : Addr).add 1).add 0) = some (.int .i64 n24) ∧ ∃ (n25 : Int), w22.cell? (((⟨g21, 0, none⟩ : Addr).add 2).add 0) = some (.int .i64 n25) ∧ ((0 : Int) ≤ n24 ∧ n24 < ((n2 : Nat) : Int) ∧ ∃ a26 : Addr, A2 = some a26 ∧ stCells (a26.add ((n24.toNat) * 1)) [(.int .i64 n25)] 0 w22 fun w27 => K (.tuple #[]) w27)) (bcase (n23 == 2) ((∃ M28 : Nat → Prop, ∃ (n29 : Int), (¬ M28 (((⟨g21, 0, none⟩ : Addr).add 1)).block ∧ w22.cell? (((⟨g21, 0, none⟩ : Addr).add 1).add 0) = some (.int .i64 n29)) ∧ ∃ (n30 : Int), (¬ M28 (((⟨g21, 0, none⟩ : Addr).add 2)).block ∧ w22.cell? (((⟨g21, 0, none⟩ : Addr).add 2).add 0) = some (.int .i64 n30)) ∧ ((0 : Int) ≤ n30 ∧ n30 < ((n2 : Nat) : Int) ∧ ∃ a31 : Addr, A2 = some a31 ∧ ∃ (n32 : Int), (¬ M28 ((a31.add ((n30.toNat) * 1))).block ∧ w22.cell? ((a31.add ((n30.toNat) * 1)).add 0) = some (.int .i64 n32)) ∧ ((0 : Int) ≤ n29 ∧ n29 < ((n2 : Nat) : Int) ∧ ∃ a33 : Addr, A2 = some a33 ∧ stCells (a33.add ((n29.toNat) * 1)) [(.int .i64 n32)] 0 w22.drew fun w34 => K (.tuple #[]) w34)))) (bcase (n23 == 3) ((∃ M35 : Nat → Prop, ∃ (n36 : Int), (¬ M35 (((⟨g21, 0, none⟩ : Addr).add 1)).block ∧ w22.cell? (((⟨g21, 0, none⟩ : Addr).add 1).add 0) = some (.int .i64 n36)) ∧ ∃ (n37 : Int), (¬ M35 (((⟨g21, 0, none⟩ : Addr).add 2)).block ∧ w22.cell? (((⟨g21, 0, none⟩ : Addr).add 2).add 0) = some (.int .i64 n37)) ∧ ((0 : Int) ≤ n37 ∧ n37 < ((n2 : Nat) : Int) ∧ ∃ a38 : Addr, A2 = some a38 ∧ ∃ (n39 : Int), (¬ M35 ((a38.add ((n37.toNat) * 1))).block ∧ w22.cell? ((a38.add ((n37.toNat) * 1)).add 0) = some (.int .i64 n39)) ∧ ∃ (n40 : Int), (¬ M35 (((⟨g21, 0, none⟩ : Addr).add 3)).block ∧ w22.cell? (((⟨g21, 0, none⟩ : Addr).add 3).add 0) = some (.int .i64 n40)) ∧ ((0 : Int) ≤ n40 ∧ n40 < ((n2 : Nat) : Int) ∧ ∃ a41 : Addr, A2 = some a41 ∧ ∃ (n42 : Int), (¬ M35 ((a41.add ((n40.toNat) * 1))).block ∧ w22.cell? ((a41.add ((n40.toNat) * 1)).add 0) = some (.int .i64 n42)) ∧ Cll Tryz.prog 218 #[(.int .i64 n39), (.int .i64 n42)] w22.drew fun v43 w44 => (∃ (n45 : Int), v43 = (.int .i64 n45) ∧ SameBut M35 w22 w44 ∧ ((0 : Int) ≤ n36 ∧ n36 < ((n2 : Nat) : Int) ∧ ∃ a46 : Addr, A2 = some a46 ∧ stCells (a46.add ((n36.toNat) * 1)) [(.int .i64 n45)] 0 w44 fun w47 => K (.tuple #[]) w47)))))) (bcase (n23 == 4) ((∃ M48 : Nat → Prop, ∃ (n49 : Int), (¬ M48 (((⟨g21, 0, none⟩ : Addr).add 1)).block ∧ w22.cell? (((⟨g21, 0, none⟩ : Addr).add 1).add 0) = some (.int .i64 n49)) ∧ ∃ (n50 : Int), (¬ M48 (((⟨g21, 0, none⟩ : Addr).add 2)).block ∧ w22.cell? (((⟨g21, 0, none⟩ : Addr).add 2).add 0) = some (.int .i64 n50)) ∧ ((0 : Int) ≤ n50 ∧ n50 < ((n2 : Nat) : Int) ∧ ∃ a51 : Addr, A2 = some a51 ∧ ∃ (n52 : Int), (¬ M48 ((a51.add ((n50.toNat) * 1))).block ∧ w22.cell? ((a51.add ((n50.toNat) * 1)).add 0) = some (.int .i64 n52)) ∧ ∃ (n53 : Int), (¬ M48 (((⟨g21, 0, none⟩ : Addr).add 3)).block ∧ w22.cell? (((⟨g21, 0, none⟩ : Addr).add 3).add 0) = some (.int .i64 n53)) ∧ ((0 : Int) ≤ n53 ∧ n53 < ((n2 : Nat) : Int) ∧ ∃ a54 : Addr, A2 = some a54 ∧ ∃ (n55 : Int), (¬ M48 ((a54.add ((n53.toNat) * 1))).block ∧ w22.cell? ((a54.add ((n53.toNat) * 1)).add 0) = some (.int .i64 n55)) ∧ Cll Tryz.prog 232 #[(.int .i64 n52), (.int .i64 n55)] w22.drew fun v56 w57 => (∃ (n58 : Int), v56 = (.int .i64 n58) ∧ SameBut M48 w22 w57 ∧ ((0 : Int) ≤ n49 ∧ n49 < ((n2 : Nat) : Int) ∧ ∃ a59 : Addr, A2 = some a59 ∧ stCells (a59.add ((n49.toNat) * 1)) [(.int .i64 n58)] 0 w57 fun w60 => K (.tuple #[]) w60)))))) (bcase (n23 == 5) ((∃ M61 : Nat → Prop, ∃ (n62 : Int), (¬ M61 (((⟨g21, 0, none⟩ : Addr).add 1)).block ∧ w22.cell? (((⟨g21, 0, none⟩ : Addr).add 1).add 0) = some (.int .i64 n62)) ∧ ∃ (n63 : Int), (¬ M61 (((⟨g21, 0, none⟩ : Addr).add 2)).block ∧ w22.cell? (((⟨g21, 0, none⟩ : Addr).add 2).add 0) = some (.int .i64 n63)) ∧ ((0 : Int) ≤ n63 ∧ n63 < ((n2 : Nat) : Int) ∧ ∃ a64 : Addr, A2 = some a64 ∧ ∃ (n65 : Int), (¬ M61 ((a64.add ((n63.toNat) * 1))).block ∧ w22.cell? ((a64.add ((n63.toNat) * 1)).add 0) = some (.int .i64 n65)) ∧ ∃ (n66 : Int), (¬ M61 (((⟨g21, 0, none⟩ : Addr).add 3)).block ∧ w22.cell? (((⟨g21, 0, none⟩ : Addr).add 3).add 0) = some (.int .i64 n66)) ∧ ((0 : Int) ≤ n66 ∧ n66 < ((n2 : Nat) : Int) ∧ ∃ a67 : Addr, A2 = some a67 ∧ ∃ (n68 : Int), (¬ M61 ((a67.add ((n66.toNat) * 1))).block ∧ w22.cell? ((a67.add ((n66.toNat) * 1)).add 0) = some (.int .i64 n68)) ∧ Cll Tryz.prog 233 #[(.int .i64 n65), (.int .i64 n68)] w22.drew fun v69 w70 => (∃ (n71 : Int), v69 = (.int .i64 n71) ∧ SameBut M61 w22 w70 ∧ ((0 : Int) ≤ n62 ∧ n62 < ((n2 : Nat) : Int) ∧ ∃ a72 : Addr, A2 = some a72 ∧ stCells (a72.add ((n62.toNat) * 1)) [(.int .i64 n71)] 0 w70 fun w73 => K (.tuple #[]) w73)))))) (bcase (n23 == 6) ((∃ M74 : Nat → Prop, ∃ (n75 : Int), (¬ M74 (((⟨g21, 0, none⟩ : Addr).add 1)).block ∧ w22.cell? (((⟨g21, 0, none⟩ : Addr).add 1).add 0) = some (.int .i64 n75)) ∧ ∃ (n76 : Int), (¬ M74 (((⟨g21, 0, none⟩ : Addr).add 2)).block ∧ w22.cell? (((⟨g21, 0, none⟩ : Addr).add 2).add 0) = some (.int .i64 n76)) ∧ ((0 : Int) ≤ n76 ∧ n76 < ((n2 : Nat) : Int) ∧ ∃ a77 : Addr, A2 = some a77 ∧ ∃ (n78 : Int), (¬ M74 ((a77.add ((n76.toNat) * 1))).block ∧ w22.cell? ((a77.add ((n76.toNat) * 1)).add 0) = some (.int .i64 n78)) ∧ ∃ (n79 : Int), (¬ M74 (((⟨g21, 0, none⟩ : Addr).add 3)).block ∧ w22.cell? (((⟨g21, 0, none⟩ : Addr).add 3).add 0) = some (.int .i64 n79)) ∧ ((0 : Int) ≤ n79 ∧ n79 < ((n2 : Nat) : Int) ∧ ∃ a80 : Addr, A2 = some a80 ∧ ∃ (n81 : Int), (¬ M74 ((a80.add ((n79.toNat) * 1))).block ∧ w22.cell? ((a80.add ((n79.toNat) * 1)).add 0) = some (.int .i64 n81)) ∧ ((0 : Int) ≤ n75 ∧ n75 < ((n2 : Nat) : Int) ∧ ∃ a82 : Addr, A2 = some a82 ∧ stCells (a82.add ((n75.toNat) * 1)) [(.int .i64 (bitXor .i64 n78 n81))] 0 w22.drew fun w83 => K (.tuple #[]) w83))))) (bcase (n23 == 7) ((∃ M84 : Nat → Prop, ∃ (n85 : Int), (¬ M84 (((⟨g21, 0, none⟩ : Addr).add 1)).block ∧ w22.cell? (((⟨g21, 0, none⟩ : Addr).add 1).add 0) = some (.int .i64 n85)) ∧ ∃ (n86 : Int), (¬ M84 (((⟨g21, 0, none⟩ : Addr).add 2)).block ∧ w22.cell? (((⟨g21, 0, none⟩ : Addr).add 2).add 0) = some (.int .i64 n86)) ∧ ((0 : Int) ≤ n86 ∧ n86 < ((n2 : Nat) : Int) ∧ ∃ a87 : Addr, A2 = some a87 ∧ ∃ (n88 : Int), (¬ M84 ((a87.add ((n86.toNat) * 1))).block ∧ w22.cell? ((a87.add ((n86.toNat) * 1)).add 0) = some (.int .i64 n88)) ∧ ∃ (n89 : Int), (¬ M84 (((⟨g21, 0, none⟩ : Addr).add 3)).block ∧ w22.cell? (((⟨g21, 0, none⟩ : Addr).add 3).add 0) = some (.int .i64 n89)) ∧ ((0 : Int) ≤ n89 ∧ n89 < ((n2 : Nat) : Int) ∧ ∃ a90 : Addr, A2 = some a90 ∧ ∃ (n91 : Int), (¬ M84 ((a90.add ((n89.toNat) * 1))).block ∧ w22.cell? ((a90.add ((n89.toNat) * 1)).add 0) = some (.int .i64 n91)) ∧ Cll Tryz.prog 234 #[(.int .i64 n88), (.int .i64 n91)] w22.drew fun v92 w93 => (∃ (n94 : Int), v92 = (.int .i64 n94) ∧ SameBut M84 w22 w93 ∧ ((0 : Int) ≤ n85 ∧ n85 < ((n2 : Nat) : Int) ∧ ∃ a95 : Addr, A2 = some a95 ∧ stCells (a95.add ((n85.toNat) * 1)) [(.int .i64 n94)] 0 w93 fun w96 => K (.tuple #[]) w96)))))) (bcase (n23 == 8) (∃ (n97 : Int), w22.cell? (((⟨g21, 0, none⟩ : Addr).add 1).add 0) = some (.int .i64 n97) ∧ ((0 : Int) ≤ n97 ∧ n97 < ((n2 : Nat) : Int) ∧ ∃ a98 : Addr, A2 = some a98 ∧ stCells (a98.add ((n97.toNat) * 1)) [(.int .i64 x1)] 0 w22 fun w99 => K (.tuple #[]) w99)) (bcase (n23 == 9) (∃ (n100 : Int), w22.cell? (((⟨g21, 0, none⟩ : Addr).add 3).add 0) = some (.int .i64 n100) ∧ ((0 : Int) ≤ n100 ∧ n100 < ((n2 : Nat) : Int) ∧ ∃ a101 : Addr, A2 = some a101 ∧ ∃ (n102 : Int), w22.cell? ((a101.add ((n100.toNat) * 1)).add 0) = some (.int .i64 n102) ∧ bcase (n102 != 0) ((∃ M103 : Nat → Prop, ∃ (n104 : Int), (¬ M103 (((⟨g21, 0, none⟩ : Addr).add 1)).block ∧ w22.cell? (((⟨g21, 0, none⟩ : Addr).add 1).add 0) = some (.int .i64 n104)) ∧ ∃ (n105 : Int), (¬ M103 (((⟨g21, 0, none⟩ : Addr).add 2)).block ∧ w22.cell? (((⟨g21, 0, none⟩ : Addr).add 2).add 0) = some (.int .i64 n105)) ∧ ((0 : Int) ≤ n105 ∧ n105 < ((n2 : Nat) : Int) ∧ ∃ a106 : Addr, A2 = some a106 ∧ ∃ (n107 : Int), (¬ M103 ((a106.add ((n105.toNat) * 1))).block ∧ w22.cell? ((a106.add ((n105.toNat) * 1)).add 0) = some (.int .i64 n107)) ∧ ((0 : Int) ≤ n104 ∧ n104 < ((n2 : Nat) : Int) ∧ ∃ a108 : Addr, A2 = some a108 ∧ stCells (a108.add ((n104.toNat) * 1)) [(.int .i64 n107)] 0 w22.drew fun w109 => K (.tuple #[]) w109)))) (K (.tuple #[]) w22))) (K (.tuple #[]) w22)))))))))

def impl_apply_v.ann : Ann := (.seq .l (.seq .l (.one (.seq .l (.two .l (.seq .l (.two .l (.seq .l (.two .l (.seq .l (.two .l (.seq .l (.two .l (.seq .l (.two .l (.seq .l (.two .l (.seq .l (.two .l (.seq .l (.two (.seq .l (.two .l .l)) .l)))))))))))))))))))))

theorem impl_apply_v.start {x0_0 : Int} {x0_1 : Int} {x0_2 : Int} {x0_3 : Int} {x1 : Int} {A2 : Option Addr} {n2 : Nat} {c2 : Nat} {w : World} {K : Value → World → Prop} (h : impl_apply_v.vc x0_0 x0_1 x0_2 x0_3 x1 A2 n2 c2 w K) : Cll Tryz.prog 201 #[(.agg #[(.int .i64 x0_0), (.int .i64 x0_1), (.int .i64 x0_2), (.int .i64 x0_3)]), (.int .i64 x1), (.slice A2 n2 c2)] w K :=
  vcF_sound mixed (fn := Tryz.f201) (by kernel_rfl) (by kernel_rfl) (an := impl_apply_v.ann) (args := [(.agg #[(.int .i64 x0_0), (.int .i64 x0_1), (.int .i64 x0_2), (.int .i64 x0_3)]), (.int .i64 x1), (.slice A2 n2 c2)]) (Eq.mpr (by kernel_rfl) h)

theorem impl_apply_v.con {s0 : D.Ins} {x1 : Int} {xs2 : List Int} {lo2 hi2 : Nat} {A2 : Option Addr} {c2 : Nat} {r : (List Int)} {w : World} (hp : M.impl_apply_v_pre s0 x1 xs2 lo2 hi2) (hr : r = M.impl_apply_v s0 x1 xs2 lo2 hi2) (O1 : Own el3 w 0 A2 c2 xs2) (hv2 : lo2 ≤ (List.take hi2 xs2).length) :
    Cll Tryz.prog 201 #[(.agg #[(.int .i64 s0.Op), (.int .i64 s0.A), (.int .i64 s0.B), (.int .i64 s0.C)]), (.int .i64 x1), (.slice (cutA c2 lo2 A2 1) ((List.drop lo2 (List.take hi2 xs2)).length) (c2 - lo2))] w (fun v_ w_ => v_ = (.tuple #[]) ∧ Own el3 w_ 0 A2 c2 r ∧ r.length = xs2.length ∧ Chg (InB A2) w w_) := by
  have H := wp.impl_apply_v.math s0 x1 xs2 lo2 hi2 hp
  have hB := Chg.refl (InB A2) w
  refine impl_apply_v.start ?_
  unfold impl_apply_v.vc
  unfold wp.impl_apply_v at H
  have O2 := (O1.take hi2).drop (l := lo2) hv2
  refine newBlk (fun g3_ w21 L3 P3 e22 => ?_)
  have N1_3 := O1.apart_new L3
  have N2_3 := O2.apart_new L3
  have O1 := O1.ext e22
  have O2 := O2.ext e22
  have O3 := P3
  have L3 := Nat.le_trans hB.size L3
  have hB := hB.then e22
  refine ⟨_, (O3.at 0 rfl rfl), ?_⟩
  refine bcase_mk (fun hc303 => ?_) (fun hc303 => ?_)
  · have H := (bcase_iff.1 H).1 hc303
    refine ⟨_, (O3.at 1 rfl rfl), ?_⟩
    refine ⟨_, (O3.at 2 rfl rfl), ?_⟩
    obtain ⟨⟨h0_26, h1_27⟩, H⟩ := H
    obtain ⟨a24, ha25, hat23⟩ := Row.at O2.row h0_26 h1_27
    refine ⟨h0_26, h1_27, a24, ha25, ?_⟩
    refine Own.storeCut (hi := hi2) O1 ha25 h0_26 h1_27 0 [(.int .i64 s0.B)] s0.B rfl (Nat.le_of_ble_eq_true rfl) rfl (fun w28 P1 e29 hb30 => ?_)
    obtain ⟨b31, hb32, hbe33⟩ := cut_blk ha25
    rw [← hbe33] at e29 hb30
    have O3_ := O3.chg e29 (fun h_ => (N1_3) _ hb32 h_.symm)
    have O3 := O3_
    have hB := hB.chgb e29 (Or.inr ⟨_, hb32, rfl⟩)
    have O1 := P1
    have O2 := (O1.take hi2).drop (l := lo2) (by first | (simp; done) | (simp at *; omega) | (simp; omega))
    obtain rfl := hr.trans H.symm
    exact ⟨rfl, O1, (by first | (simp only [List.length_set]; done) | (simp only [List.length_set, List.length_set]; done) | (simp; done) | (simp; omega) | omega), hB⟩
  have H := (bcase_iff.1 H).2 hc303
  refine bcase_mk (fun hc302 => ?_) (fun hc302 => ?_)
  · have H := (bcase_iff.1 H).1 hc302
    refine ⟨(fun _ => False), ?_⟩
    refine ⟨_, ⟨(fun h_ => h_), (O3.at 1 rfl rfl)⟩, ?_⟩
    refine ⟨_, ⟨(fun h_ => h_), (O3.at 2 rfl rfl)⟩, ?_⟩
    obtain ⟨⟨h0_38, h1_39⟩, H⟩ := H
    obtain ⟨a36, ha37, hat35⟩ := Row.at O2.row h0_38 h1_39
    refine ⟨h0_38, h1_39, a36, ha37, ?_⟩
    refine ⟨_, ⟨(fun h_ => h_), (hat35 0 _ rfl)⟩, ?_⟩
    obtain ⟨⟨h0_43, h1_44⟩, H⟩ := H
    obtain ⟨a41, ha42, hat40⟩ := Row.at O2.row h0_43 h1_44
    refine ⟨h0_43, h1_44, a41, ha42, ?_⟩
    have hS34 := Chg.refl (fun _ => False) w21
    have O1 := O1.ext (Ext.drew _)
    have O2 := O2.ext (Ext.drew _)
    have O3 := O3.ext (Ext.drew _)
    have hB := hB.then (Ext.drew _)
    have hS34 := hS34.then (Ext.drew _)
    refine Own.storeCut (hi := hi2) O1 ha42 h0_43 h1_44 0 [(.int .i64 (rd (List.drop lo2 (List.take hi2 xs2)) s0.B))] (rd (List.drop lo2 (List.take hi2 xs2)) s0.B) rfl (Nat.le_of_ble_eq_true rfl) rfl (fun w45 P1 e46 hb47 => ?_)
    obtain ⟨b48, hb49, hbe50⟩ := cut_blk ha42
    rw [← hbe50] at e46 hb47
    have O3_ := O3.chg e46 (fun h_ => (N1_3) _ hb49 h_.symm)
    have O3 := O3_
    have hB := hB.chgb e46 (Or.inr ⟨_, hb49, rfl⟩)
    have O1 := P1
    have O2 := (O1.take hi2).drop (l := lo2) (by first | (simp; done) | (simp at *; omega) | (simp; omega))
    obtain rfl := hr.trans H.symm
    exact ⟨rfl, O1, (by first | (simp only [List.length_set]; done) | (simp only [List.length_set, List.length_set]; done) | (simp; done) | (simp; omega) | omega), hB⟩
  have H := (bcase_iff.1 H).2 hc302
  refine bcase_mk (fun hc301 => ?_) (fun hc301 => ?_)
  · have H := (bcase_iff.1 H).1 hc301
    refine ⟨(fun _ => False), ?_⟩
    have hBz := hB
    have Z1 := O1
    have Z2 := O2
    have Z3 := O3
    refine ⟨_, ⟨(fun h_ => h_), (O3.at 1 rfl rfl)⟩, ?_⟩
    refine ⟨_, ⟨(fun h_ => h_), (O3.at 2 rfl rfl)⟩, ?_⟩
    obtain ⟨⟨h0_75, h1_76⟩, H⟩ := H
    obtain ⟨a73, ha74, hat72⟩ := Row.at O2.row h0_75 h1_76
    refine ⟨h0_75, h1_76, a73, ha74, ?_⟩
    refine ⟨_, ⟨(fun h_ => h_), (hat72 0 _ rfl)⟩, ?_⟩
    refine ⟨_, ⟨(fun h_ => h_), (O3.at 3 rfl rfl)⟩, ?_⟩
    obtain ⟨⟨h0_80, h1_81⟩, H⟩ := H
    obtain ⟨a78, ha79, hat77⟩ := Row.at O2.row h0_80 h1_81
    refine ⟨h0_80, h1_81, a78, ha79, ?_⟩
    refine ⟨_, ⟨(fun h_ => h_), (hat77 0 _ rfl)⟩, ?_⟩
    have hS51 := Chg.refl (fun _ => False) w21
    have O1 := O1.ext (Ext.drew _)
    have O2 := O2.ext (Ext.drew _)
    have O3 := O3.ext (Ext.drew _)
    have hB := hB.then (Ext.drew _)
    have hS51 := hS51.then (Ext.drew _)
    obtain ⟨r82, hr83⟩ : ∃ r_, r_ = M.impl_AddWords (rd (List.drop lo2 (List.take hi2 xs2)) s0.B) (rd (List.drop lo2 (List.take hi2 xs2)) s0.C) := ⟨_, rfl⟩
    have H := H r82 hr83
    refine (impl_AddWords.con hr83 ).mono ?_
    rintro _ w85 ⟨rfl, e86⟩
    have O1 := O1.ext e86
    have O2 := O2.ext e86
    have O3 := O3.ext e86
    have hB := hB.then e86
    have hS51 := hS51.then e86
    refine ⟨r82, rfl, ?_⟩
    refine ⟨sameBut_chg hS51, ?_⟩
    obtain ⟨⟨h0_90, h1_91⟩, H⟩ := H
    obtain ⟨a88, ha89, hat87⟩ := Row.at Z2.row h0_90 h1_91
    refine ⟨h0_90, h1_91, a88, ha89, ?_⟩
    refine Own.storeCut (hi := hi2) O1 ha89 h0_90 h1_91 0 [(.int .i64 r82)] r82 rfl (Nat.le_of_ble_eq_true rfl) rfl (fun w92 P1 e93 hb94 => ?_)
    obtain ⟨b95, hb96, hbe97⟩ := cut_blk ha89
    rw [← hbe97] at e93 hb94
    have O3_ := O3.chg e93 (fun h_ => (N1_3) _ hb96 h_.symm)
    have O3 := O3_
    have hB := hB.chgb e93 (Or.inr ⟨_, hb96, rfl⟩)
    have O1 := P1
    have O2 := (O1.take hi2).drop (l := lo2) (by first | (simp; done) | (simp at *; omega) | (simp; omega))
    obtain rfl := hr.trans H.symm
    exact ⟨rfl, O1, (by first | (simp only [List.length_set]; done) | (simp only [List.length_set, List.length_set]; done) | (simp; done) | (simp; omega) | omega), hB⟩
  have H := (bcase_iff.1 H).2 hc301
  refine bcase_mk (fun hc300 => ?_) (fun hc300 => ?_)
  · have H := (bcase_iff.1 H).1 hc300
    refine ⟨(fun _ => False), ?_⟩
    have hBz := hB
    have Z1 := O1
    have Z2 := O2
    have Z3 := O3
    refine ⟨_, ⟨(fun h_ => h_), (O3.at 1 rfl rfl)⟩, ?_⟩
    refine ⟨_, ⟨(fun h_ => h_), (O3.at 2 rfl rfl)⟩, ?_⟩
    obtain ⟨⟨h0_122, h1_123⟩, H⟩ := H
    obtain ⟨a120, ha121, hat119⟩ := Row.at O2.row h0_122 h1_123
    refine ⟨h0_122, h1_123, a120, ha121, ?_⟩
    refine ⟨_, ⟨(fun h_ => h_), (hat119 0 _ rfl)⟩, ?_⟩
    refine ⟨_, ⟨(fun h_ => h_), (O3.at 3 rfl rfl)⟩, ?_⟩
    obtain ⟨⟨h0_127, h1_128⟩, H⟩ := H
    obtain ⟨a125, ha126, hat124⟩ := Row.at O2.row h0_127 h1_128
    refine ⟨h0_127, h1_128, a125, ha126, ?_⟩
    refine ⟨_, ⟨(fun h_ => h_), (hat124 0 _ rfl)⟩, ?_⟩
    have hS98 := Chg.refl (fun _ => False) w21
    have O1 := O1.ext (Ext.drew _)
    have O2 := O2.ext (Ext.drew _)
    have O3 := O3.ext (Ext.drew _)
    have hB := hB.then (Ext.drew _)
    have hS98 := hS98.then (Ext.drew _)
    obtain ⟨r129, hr130⟩ : ∃ r_, r_ = M.impl_SubWords (rd (List.drop lo2 (List.take hi2 xs2)) s0.B) (rd (List.drop lo2 (List.take hi2 xs2)) s0.C) := ⟨_, rfl⟩
    have H := H r129 hr130
    refine (impl_SubWords.con hr130 ).mono ?_
    rintro _ w132 ⟨rfl, e133⟩
    have O1 := O1.ext e133
    have O2 := O2.ext e133
    have O3 := O3.ext e133
    have hB := hB.then e133
    have hS98 := hS98.then e133
    refine ⟨r129, rfl, ?_⟩
    refine ⟨sameBut_chg hS98, ?_⟩
    obtain ⟨⟨h0_137, h1_138⟩, H⟩ := H
    obtain ⟨a135, ha136, hat134⟩ := Row.at Z2.row h0_137 h1_138
    refine ⟨h0_137, h1_138, a135, ha136, ?_⟩
    refine Own.storeCut (hi := hi2) O1 ha136 h0_137 h1_138 0 [(.int .i64 r129)] r129 rfl (Nat.le_of_ble_eq_true rfl) rfl (fun w139 P1 e140 hb141 => ?_)
    obtain ⟨b142, hb143, hbe144⟩ := cut_blk ha136
    rw [← hbe144] at e140 hb141
    have O3_ := O3.chg e140 (fun h_ => (N1_3) _ hb143 h_.symm)
    have O3 := O3_
    have hB := hB.chgb e140 (Or.inr ⟨_, hb143, rfl⟩)
    have O1 := P1
    have O2 := (O1.take hi2).drop (l := lo2) (by first | (simp; done) | (simp at *; omega) | (simp; omega))
    obtain rfl := hr.trans H.symm
    exact ⟨rfl, O1, (by first | (simp only [List.length_set]; done) | (simp only [List.length_set, List.length_set]; done) | (simp; done) | (simp; omega) | omega), hB⟩
  have H := (bcase_iff.1 H).2 hc300
  refine bcase_mk (fun hc299 => ?_) (fun hc299 => ?_)
  · have H := (bcase_iff.1 H).1 hc299
    refine ⟨(fun _ => False), ?_⟩
    have hBz := hB
    have Z1 := O1
    have Z2 := O2
    have Z3 := O3
    refine ⟨_, ⟨(fun h_ => h_), (O3.at 1 rfl rfl)⟩, ?_⟩
    refine ⟨_, ⟨(fun h_ => h_), (O3.at 2 rfl rfl)⟩, ?_⟩
    obtain ⟨⟨h0_169, h1_170⟩, H⟩ := H
    obtain ⟨a167, ha168, hat166⟩ := Row.at O2.row h0_169 h1_170
    refine ⟨h0_169, h1_170, a167, ha168, ?_⟩
    refine ⟨_, ⟨(fun h_ => h_), (hat166 0 _ rfl)⟩, ?_⟩
    refine ⟨_, ⟨(fun h_ => h_), (O3.at 3 rfl rfl)⟩, ?_⟩
    obtain ⟨⟨h0_174, h1_175⟩, H⟩ := H
    obtain ⟨a172, ha173, hat171⟩ := Row.at O2.row h0_174 h1_175
    refine ⟨h0_174, h1_175, a172, ha173, ?_⟩
    refine ⟨_, ⟨(fun h_ => h_), (hat171 0 _ rfl)⟩, ?_⟩
    have hS145 := Chg.refl (fun _ => False) w21
    have O1 := O1.ext (Ext.drew _)
    have O2 := O2.ext (Ext.drew _)
    have O3 := O3.ext (Ext.drew _)
    have hB := hB.then (Ext.drew _)
    have hS145 := hS145.then (Ext.drew _)
    obtain ⟨r176, hr177⟩ : ∃ r_, r_ = M.impl_MulWords (rd (List.drop lo2 (List.take hi2 xs2)) s0.B) (rd (List.drop lo2 (List.take hi2 xs2)) s0.C) := ⟨_, rfl⟩
    have H := H r176 hr177
    refine (impl_MulWords.con hr177 ).mono ?_
    rintro _ w179 ⟨rfl, e180⟩
    have O1 := O1.ext e180
    have O2 := O2.ext e180
    have O3 := O3.ext e180
    have hB := hB.then e180
    have hS145 := hS145.then e180
    refine ⟨r176, rfl, ?_⟩
    refine ⟨sameBut_chg hS145, ?_⟩
    obtain ⟨⟨h0_184, h1_185⟩, H⟩ := H
    obtain ⟨a182, ha183, hat181⟩ := Row.at Z2.row h0_184 h1_185
    refine ⟨h0_184, h1_185, a182, ha183, ?_⟩
    refine Own.storeCut (hi := hi2) O1 ha183 h0_184 h1_185 0 [(.int .i64 r176)] r176 rfl (Nat.le_of_ble_eq_true rfl) rfl (fun w186 P1 e187 hb188 => ?_)
    obtain ⟨b189, hb190, hbe191⟩ := cut_blk ha183
    rw [← hbe191] at e187 hb188
    have O3_ := O3.chg e187 (fun h_ => (N1_3) _ hb190 h_.symm)
    have O3 := O3_
    have hB := hB.chgb e187 (Or.inr ⟨_, hb190, rfl⟩)
    have O1 := P1
    have O2 := (O1.take hi2).drop (l := lo2) (by first | (simp; done) | (simp at *; omega) | (simp; omega))
    obtain rfl := hr.trans H.symm
    exact ⟨rfl, O1, (by first | (simp only [List.length_set]; done) | (simp only [List.length_set, List.length_set]; done) | (simp; done) | (simp; omega) | omega), hB⟩
  have H := (bcase_iff.1 H).2 hc299
  refine bcase_mk (fun hc298 => ?_) (fun hc298 => ?_)
  · have H := (bcase_iff.1 H).1 hc298
    refine ⟨(fun _ => False), ?_⟩
    refine ⟨_, ⟨(fun h_ => h_), (O3.at 1 rfl rfl)⟩, ?_⟩
    refine ⟨_, ⟨(fun h_ => h_), (O3.at 2 rfl rfl)⟩, ?_⟩
    obtain ⟨⟨h0_196, h1_197⟩, H⟩ := H
    obtain ⟨a194, ha195, hat193⟩ := Row.at O2.row h0_196 h1_197
    refine ⟨h0_196, h1_197, a194, ha195, ?_⟩
    refine ⟨_, ⟨(fun h_ => h_), (hat193 0 _ rfl)⟩, ?_⟩
    refine ⟨_, ⟨(fun h_ => h_), (O3.at 3 rfl rfl)⟩, ?_⟩
    obtain ⟨⟨h0_201, h1_202⟩, H⟩ := H
    obtain ⟨a199, ha200, hat198⟩ := Row.at O2.row h0_201 h1_202
    refine ⟨h0_201, h1_202, a199, ha200, ?_⟩
    refine ⟨_, ⟨(fun h_ => h_), (hat198 0 _ rfl)⟩, ?_⟩
    obtain ⟨⟨h0_206, h1_207⟩, H⟩ := H
    obtain ⟨a204, ha205, hat203⟩ := Row.at O2.row h0_206 h1_207
    refine ⟨h0_206, h1_207, a204, ha205, ?_⟩
    have hS192 := Chg.refl (fun _ => False) w21
    have O1 := O1.ext (Ext.drew _)
    have O2 := O2.ext (Ext.drew _)
    have O3 := O3.ext (Ext.drew _)
    have hB := hB.then (Ext.drew _)
    have hS192 := hS192.then (Ext.drew _)
    refine Own.storeCut (hi := hi2) O1 ha205 h0_206 h1_207 0 [(.int .i64 (bitXor .i64 (rd (List.drop lo2 (List.take hi2 xs2)) s0.B) (rd (List.drop lo2 (List.take hi2 xs2)) s0.C)))] (bitXor .i64 (rd (List.drop lo2 (List.take hi2 xs2)) s0.B) (rd (List.drop lo2 (List.take hi2 xs2)) s0.C)) rfl (Nat.le_of_ble_eq_true rfl) rfl (fun w208 P1 e209 hb210 => ?_)
    obtain ⟨b211, hb212, hbe213⟩ := cut_blk ha205
    rw [← hbe213] at e209 hb210
    have O3_ := O3.chg e209 (fun h_ => (N1_3) _ hb212 h_.symm)
    have O3 := O3_
    have hB := hB.chgb e209 (Or.inr ⟨_, hb212, rfl⟩)
    have O1 := P1
    have O2 := (O1.take hi2).drop (l := lo2) (by first | (simp; done) | (simp at *; omega) | (simp; omega))
    obtain rfl := hr.trans H.symm
    exact ⟨rfl, O1, (by first | (simp only [List.length_set]; done) | (simp only [List.length_set, List.length_set]; done) | (simp; done) | (simp; omega) | omega), hB⟩
  have H := (bcase_iff.1 H).2 hc298
  refine bcase_mk (fun hc297 => ?_) (fun hc297 => ?_)
  · have H := (bcase_iff.1 H).1 hc297
    refine ⟨(fun _ => False), ?_⟩
    have hBz := hB
    have Z1 := O1
    have Z2 := O2
    have Z3 := O3
    refine ⟨_, ⟨(fun h_ => h_), (O3.at 1 rfl rfl)⟩, ?_⟩
    refine ⟨_, ⟨(fun h_ => h_), (O3.at 2 rfl rfl)⟩, ?_⟩
    obtain ⟨⟨h0_238, h1_239⟩, H⟩ := H
    obtain ⟨a236, ha237, hat235⟩ := Row.at O2.row h0_238 h1_239
    refine ⟨h0_238, h1_239, a236, ha237, ?_⟩
    refine ⟨_, ⟨(fun h_ => h_), (hat235 0 _ rfl)⟩, ?_⟩
    refine ⟨_, ⟨(fun h_ => h_), (O3.at 3 rfl rfl)⟩, ?_⟩
    obtain ⟨⟨h0_243, h1_244⟩, H⟩ := H
    obtain ⟨a241, ha242, hat240⟩ := Row.at O2.row h0_243 h1_244
    refine ⟨h0_243, h1_244, a241, ha242, ?_⟩
    refine ⟨_, ⟨(fun h_ => h_), (hat240 0 _ rfl)⟩, ?_⟩
    have hS214 := Chg.refl (fun _ => False) w21
    have O1 := O1.ext (Ext.drew _)
    have O2 := O2.ext (Ext.drew _)
    have O3 := O3.ext (Ext.drew _)
    have hB := hB.then (Ext.drew _)
    have hS214 := hS214.then (Ext.drew _)
    obtain ⟨r245, hr246⟩ : ∃ r_, r_ = M.impl_LessWords (rd (List.drop lo2 (List.take hi2 xs2)) s0.B) (rd (List.drop lo2 (List.take hi2 xs2)) s0.C) := ⟨_, rfl⟩
    have H := H r245 hr246
    refine (impl_LessWords.con hr246 ).mono ?_
    rintro _ w248 ⟨rfl, e249⟩
    have O1 := O1.ext e249
    have O2 := O2.ext e249
    have O3 := O3.ext e249
    have hB := hB.then e249
    have hS214 := hS214.then e249
    refine ⟨r245, rfl, ?_⟩
    refine ⟨sameBut_chg hS214, ?_⟩
    obtain ⟨⟨h0_253, h1_254⟩, H⟩ := H
    obtain ⟨a251, ha252, hat250⟩ := Row.at Z2.row h0_253 h1_254
    refine ⟨h0_253, h1_254, a251, ha252, ?_⟩
    refine Own.storeCut (hi := hi2) O1 ha252 h0_253 h1_254 0 [(.int .i64 r245)] r245 rfl (Nat.le_of_ble_eq_true rfl) rfl (fun w255 P1 e256 hb257 => ?_)
    obtain ⟨b258, hb259, hbe260⟩ := cut_blk ha252
    rw [← hbe260] at e256 hb257
    have O3_ := O3.chg e256 (fun h_ => (N1_3) _ hb259 h_.symm)
    have O3 := O3_
    have hB := hB.chgb e256 (Or.inr ⟨_, hb259, rfl⟩)
    have O1 := P1
    have O2 := (O1.take hi2).drop (l := lo2) (by first | (simp; done) | (simp at *; omega) | (simp; omega))
    obtain rfl := hr.trans H.symm
    exact ⟨rfl, O1, (by first | (simp only [List.length_set]; done) | (simp only [List.length_set, List.length_set]; done) | (simp; done) | (simp; omega) | omega), hB⟩
  have H := (bcase_iff.1 H).2 hc297
  refine bcase_mk (fun hc296 => ?_) (fun hc296 => ?_)
  · have H := (bcase_iff.1 H).1 hc296
    refine ⟨_, (O3.at 1 rfl rfl), ?_⟩
    obtain ⟨⟨h0_264, h1_265⟩, H⟩ := H
    obtain ⟨a262, ha263, hat261⟩ := Row.at O2.row h0_264 h1_265
    refine ⟨h0_264, h1_265, a262, ha263, ?_⟩
    refine Own.storeCut (hi := hi2) O1 ha263 h0_264 h1_265 0 [(.int .i64 x1)] x1 rfl (Nat.le_of_ble_eq_true rfl) rfl (fun w266 P1 e267 hb268 => ?_)
    obtain ⟨b269, hb270, hbe271⟩ := cut_blk ha263
    rw [← hbe271] at e267 hb268
    have O3_ := O3.chg e267 (fun h_ => (N1_3) _ hb270 h_.symm)
    have O3 := O3_
    have hB := hB.chgb e267 (Or.inr ⟨_, hb270, rfl⟩)
    have O1 := P1
    have O2 := (O1.take hi2).drop (l := lo2) (by first | (simp; done) | (simp at *; omega) | (simp; omega))
    obtain rfl := hr.trans H.symm
    exact ⟨rfl, O1, (by first | (simp only [List.length_set]; done) | (simp only [List.length_set, List.length_set]; done) | (simp; done) | (simp; omega) | omega), hB⟩
  have H := (bcase_iff.1 H).2 hc296
  refine bcase_mk (fun hc295 => ?_) (fun hc295 => ?_)
  · have H := (bcase_iff.1 H).1 hc295
    refine ⟨_, (O3.at 3 rfl rfl), ?_⟩
    obtain ⟨⟨h0_275, h1_276⟩, H⟩ := H
    obtain ⟨a273, ha274, hat272⟩ := Row.at O2.row h0_275 h1_276
    refine ⟨h0_275, h1_276, a273, ha274, ?_⟩
    refine ⟨_, (hat272 0 _ rfl), ?_⟩
    refine bcase_mk (fun hc294 => ?_) (fun hc294 => ?_)
    · have H := (bcase_iff.1 H).1 hc294
      refine ⟨(fun _ => False), ?_⟩
      refine ⟨_, ⟨(fun h_ => h_), (O3.at 1 rfl rfl)⟩, ?_⟩
      refine ⟨_, ⟨(fun h_ => h_), (O3.at 2 rfl rfl)⟩, ?_⟩
      obtain ⟨⟨h0_281, h1_282⟩, H⟩ := H
      obtain ⟨a279, ha280, hat278⟩ := Row.at O2.row h0_281 h1_282
      refine ⟨h0_281, h1_282, a279, ha280, ?_⟩
      refine ⟨_, ⟨(fun h_ => h_), (hat278 0 _ rfl)⟩, ?_⟩
      obtain ⟨⟨h0_286, h1_287⟩, H⟩ := H
      obtain ⟨a284, ha285, hat283⟩ := Row.at O2.row h0_286 h1_287
      refine ⟨h0_286, h1_287, a284, ha285, ?_⟩
      have hS277 := Chg.refl (fun _ => False) w21
      have O1 := O1.ext (Ext.drew _)
      have O2 := O2.ext (Ext.drew _)
      have O3 := O3.ext (Ext.drew _)
      have hB := hB.then (Ext.drew _)
      have hS277 := hS277.then (Ext.drew _)
      refine Own.storeCut (hi := hi2) O1 ha285 h0_286 h1_287 0 [(.int .i64 (rd (List.drop lo2 (List.take hi2 xs2)) s0.B))] (rd (List.drop lo2 (List.take hi2 xs2)) s0.B) rfl (Nat.le_of_ble_eq_true rfl) rfl (fun w288 P1 e289 hb290 => ?_)
      obtain ⟨b291, hb292, hbe293⟩ := cut_blk ha285
      rw [← hbe293] at e289 hb290
      have O3_ := O3.chg e289 (fun h_ => (N1_3) _ hb292 h_.symm)
      have O3 := O3_
      have hB := hB.chgb e289 (Or.inr ⟨_, hb292, rfl⟩)
      have O1 := P1
      have O2 := (O1.take hi2).drop (l := lo2) (by first | (simp; done) | (simp at *; omega) | (simp; omega))
      obtain rfl := hr.trans H.symm
      exact ⟨rfl, O1, (by first | (simp only [List.length_set]; done) | (simp only [List.length_set, List.length_set]; done) | (simp; done) | (simp; omega) | omega), hB⟩
    have H := (bcase_iff.1 H).2 hc294
    obtain rfl := hr.trans H.symm
    exact ⟨rfl, O1, rfl, hB⟩
  have H := (bcase_iff.1 H).2 hc295
  obtain rfl := hr.trans H.symm
  exact ⟨rfl, O1, rfl, hB⟩
def impl_Warp_advance.vc (p0 : Addr) (A1 : Option Addr) (n1 : Nat) (c1 : Nat) (w : World) (K : Value → World → Prop) : Prop :=
  ∃ (A21 : Option Addr) (n22 : Nat) (c23 : Nat), w.cell? ((p0.add 1).add 0) = some (.slice A21 n22 c23) ∧ ∃ (A24 : Option Addr) (n25 : Nat) (c26 : Nat), w.cell? ((p0.add 1).add 0) = some (.slice A24 n25 c26) ∧ ((0 : Int) ≤ (IntKind.wrap .i64 (((n25 : Nat) : Int) - 1)) ∧ (IntKind.wrap .i64 (((n25 : Nat) : Int) - 1)) < ((n22 : Nat) : Int) ∧ ∃ a27 : Addr, A21 = some a27 ∧ ∃ (n28 : Int), w.drew.cell? (((a27.add (((IntKind.wrap .i64 (((n25 : Nat) : Int) - 1)).toNat) * 3)).add 0).add 0) = some (.int .i64 n28) ∧ ((0 : Int) ≤ n28 ∧ n28 < ((n1 : Nat) : Int) ∧ ∃ a29 : Addr, A1 = some a29 ∧ ∃ (n30 : Int), w.drew.cell? ((a29.add ((n28.toNat) * 4)).add 0) = some (.int .i64 n30) ∧ ∃ (n31 : Int), w.drew.cell? ((a29.add ((n28.toNat) * 4)).add 1) = some (.int .i64 n31) ∧ ∃ (n32 : Int), w.drew.cell? ((a29.add ((n28.toNat) * 4)).add 2) = some (.int .i64 n32) ∧ ∃ (n33 : Int), w.drew.cell? ((a29.add ((n28.toNat) * 4)).add 3) = some (.int .i64 n33) ∧ newK w.drew (.cells #[(.int .i64 0), (.int .i64 0), (.int .i64 0), (.int .i64 0)] 89) fun g34 w35 => stCells (⟨g34, 0, none⟩ : Addr) [(.int .i64 n30), (.int .i64 n31), (.int .i64 n32), (.int .i64 n33)] 0 w35 fun w36 => ∃ (n37 : Int), w36.cell? (((a27.add (((IntKind.wrap .i64 (((n25 : Nat) : Int) - 1)).toNat) * 3)).add 2).add 0) = some (.int .i64 n37) ∧ Cll Tryz.prog 170 #[(.int .i64 n37)] w36 fun v38 w39 => (∃ (A40 : Option Addr) (n41 : Nat) (c42 : Nat), v38 = (.slice A40 n41 c42) ∧ LoopT (σ := Int × Unit) (fun z43 w44 next45 => bcase (decide (z43.1 < ((n41 : Nat) : Int))) (((0 : Int) ≤ z43.1 ∧ z43.1 < ((n41 : Nat) : Int) ∧ ∃ a46 : Addr, A40 = some a46 ∧ ∃ (n47 : Int), w44.cell? ((a46.add ((z43.1.toNat) * 1)).add 0) = some (.int .i64 n47) ∧ (∃ M48 : Nat → Prop, ∃ (n49 : Int), (¬ M48 ((⟨g34, 0, none⟩ : Addr)).block ∧ w44.cell? ((⟨g34, 0, none⟩ : Addr).add 0) = some (.int .i64 n49)) ∧ ∃ (n50 : Int), (¬ M48 ((⟨g34, 0, none⟩ : Addr)).block ∧ w44.cell? ((⟨g34, 0, none⟩ : Addr).add 1) = some (.int .i64 n50)) ∧ ∃ (n51 : Int), (¬ M48 ((⟨g34, 0, none⟩ : Addr)).block ∧ w44.cell? ((⟨g34, 0, none⟩ : Addr).add 2) = some (.int .i64 n51)) ∧ ∃ (n52 : Int), (¬ M48 ((⟨g34, 0, none⟩ : Addr)).block ∧ w44.cell? ((⟨g34, 0, none⟩ : Addr).add 3) = some (.int .i64 n52)) ∧ ∃ (n53 : Int), (¬ M48 ((p0.add 0)).block ∧ w44.cell? ((p0.add 0).add 0) = some (.int .i64 n53)) ∧ ∃ (n54 : Int), (¬ M48 (p0).block ∧ w44.cell? (p0.add 0) = some (.int .i64 n54)) ∧ ∃ (A55 : Option Addr) (n56 : Nat) (c57 : Nat), (¬ M48 (p0).block ∧ w44.cell? (p0.add 1) = some (.slice A55 n56 c57)) ∧ ∃ (A58 : Option Addr) (n59 : Nat) (c60 : Nat), (¬ M48 (p0).block ∧ w44.cell? (p0.add 2) = some (.slice A58 n59 c60)) ∧ Cll Tryz.prog 171 #[(.agg #[(.int .i64 n54), (.slice A55 n56 c57), (.slice A58 n59 c60)]), (.int .i64 n47)] w44.drew fun v61 w62 => (∃ (A63 : Option Addr) (n64 : Nat) (c65 : Nat), v61 = (.slice A63 n64 c65) ∧ SameBut M48 w44 w62 ∧ Cll Tryz.prog 201 #[(.agg #[(.int .i64 n49), (.int .i64 n50), (.int .i64 n51), (.int .i64 n52)]), (.int .i64 (IntKind.wrap .i64 ((IntKind.wrap .i64 (n53 * 8)) + n47))), (.slice A63 n64 c65)] w62 fun v66 w67 => (v66 = (.tuple #[]) ∧ SameBut M48 w44 w67 ∧ next45 ((IntKind.wrap .i64 (z43.1 + 1)), ()) w67))))) (∃ (n68 : Int), w44.cell? (((⟨g34, 0, none⟩ : Addr).add 0).add 0) = some (.int .i64 n68) ∧ bcase (n68 == 12) (stCells ((a27.add (((IntKind.wrap .i64 (((n25 : Nat) : Int) - 1)).toNat) * 3)).add 0) [(.int .i64 ((n1 : Nat) : Int))] 0 w44 fun w69 => K (.tuple #[]) w69) (JoinT (σ := Bool × Unit) (fun J70 => (∃ M71 : Nat → Prop, ∃ (n72 : Int), (¬ M71 (((⟨g34, 0, none⟩ : Addr).add 0)).block ∧ w44.cell? (((⟨g34, 0, none⟩ : Addr).add 0).add 0) = some (.int .i64 n72)) ∧ bcase (n72 == 11) (J70 (true, ()) w44.drew) (∃ (n73 : Int), (¬ M71 (((⟨g34, 0, none⟩ : Addr).add 0)).block ∧ w44.cell? (((⟨g34, 0, none⟩ : Addr).add 0).add 0) = some (.int .i64 n73)) ∧ bcase (n73 == 10) (∃ (n74 : Int), (¬ M71 (p0).block ∧ w44.cell? (p0.add 0) = some (.int .i64 n74)) ∧ ∃ (A75 : Option Addr) (n76 : Nat) (c77 : Nat), (¬ M71 (p0).block ∧ w44.cell? (p0.add 1) = some (.slice A75 n76 c77)) ∧ ∃ (A78 : Option Addr) (n79 : Nat) (c80 : Nat), (¬ M71 (p0).block ∧ w44.cell? (p0.add 2) = some (.slice A78 n79 c80)) ∧ ∃ (n81 : Int), (¬ M71 (((⟨g34, 0, none⟩ : Addr).add 1)).block ∧ w44.cell? (((⟨g34, 0, none⟩ : Addr).add 1).add 0) = some (.int .i64 n81)) ∧ ∃ (n82 : Int), (¬ M71 (((a27.add (((IntKind.wrap .i64 (((n25 : Nat) : Int) - 1)).toNat) * 3)).add 2)).block ∧ w44.cell? (((a27.add (((IntKind.wrap .i64 (((n25 : Nat) : Int) - 1)).toNat) * 3)).add 2).add 0) = some (.int .i64 n82)) ∧ Cll Tryz.prog 155 #[(.agg #[(.int .i64 n74), (.slice A75 n76 c77), (.slice A78 n79 c80)]), (.int .i64 n81)] w44.drew fun v83 w84 => (∃ (n85 : Int), v83 = (.int .i64 n85) ∧ SameBut M71 w44 w84 ∧ J70 ((n85 == n82), ()) w84)) (J70 (false, ()) w44.drew)))) fun z86 w87 => bcase z86.1 (∃ (n88 : Int), w87.cell? (((⟨g34, 0, none⟩ : Addr).add 2).add 0) = some (.int .i64 n88) ∧ stCells ((a27.add (((IntKind.wrap .i64 (((n25 : Nat) : Int) - 1)).toNat) * 3)).add 0) [(.int .i64 n88)] 0 w87 fun w89 => K (.tuple #[]) w89) (∃ (n90 : Int), w87.cell? (((a27.add (((IntKind.wrap .i64 (((n25 : Nat) : Int) - 1)).toNat) * 3)).add 0).add 0) = some (.int .i64 n90) ∧ stCells ((a27.add (((IntKind.wrap .i64 (((n25 : Nat) : Int) - 1)).toNat) * 3)).add 0) [(.int .i64 (IntKind.wrap .i64 (n90 + 1)))] 0 w87 fun w91 => K (.tuple #[]) w91)))) (0, ()) w39)))

def impl_Warp_advance.ann : Ann := (.seq .l (.seq .l (.seq (.seq .l (.one (.loop [(32, .int .i64)] (.seq .l (.seq (.two .l .l) (.seq (.one (.seq .l .l)) .l)))))) (.one (.seq .l (.two .l (.cut [(67, .bool)] .l (.two .l .l))))))))

theorem impl_Warp_advance.start {p0 : Addr} {A1 : Option Addr} {n1 : Nat} {c1 : Nat} {w : World} {K : Value → World → Prop} (h : impl_Warp_advance.vc p0 A1 n1 c1 w K) : Cll Tryz.prog 146 #[(.pointer (some p0)), (.slice A1 n1 c1)] w K :=
  vcF_sound mixed (fn := Tryz.f146) (by kernel_rfl) (by kernel_rfl) (an := impl_Warp_advance.ann) (args := [(.pointer (some p0)), (.slice A1 n1 c1)]) (Eq.mpr (by kernel_rfl) h)

theorem impl_Warp_advance.con {s0 : D.Warp} {g1_ : Nat} {A0_1 : Option Addr} {c0_1 : Nat} {A0_2 : Option Addr} {c0_2 : Nat} {o1_ : Nat} {R1_ : Array Value} {xs1 : List D.Ins} {A1 : Option Addr} {c1 : Nat} {r : D.Warp} {w : World} (hp : M.impl_Warp_advance_pre s0 xs1) (hr : r = M.impl_Warp_advance s0 xs1) (O1 : Plc w g1_ o1_ 31 R1_ #[(.int .i64 s0.Number), (.slice A0_1 s0.Frames.length c0_1), (.slice A0_2 s0.Regs.length c0_2)]) (O2 : Own el130 w 0 A0_1 c0_1 s0.Frames) (O3 : Own el3 w 0 A0_2 c0_2 s0.Regs) (R1 : Row el89 w A1 xs1) (hc1 : xs1.length ≤ c1) (D1 : xs1 ≠ [] → ∀ g, InB A1 g → ¬ (fun k_ => InB A0_1 k_ ∨ InB A0_2 k_ ∨ k_ = g1_) g) :
    Cll Tryz.prog 146 #[(.pointer (some (⟨g1_, o1_, none⟩ : Addr))), (.slice A1 xs1.length c1)] w (fun v_ w_ => ∃ (A0_ : Option Addr) (c0_ : Nat) (A1_ : Option Addr) (c1_ : Nat), v_ = (.tuple #[]) ∧ Plc w_ g1_ o1_ 31 R1_ #[(.int .i64 r.Number), (.slice A0_ r.Frames.length c0_), (.slice A1_ r.Regs.length c1_)] ∧ Own el130 w_ 0 A0_ c0_ r.Frames ∧ Mov w A0_1 A0_ ∧ Own el3 w_ 0 A1_ c1_ r.Regs ∧ Mov w A0_2 A1_ ∧ Chg (fun k_ => InB A0_1 k_ ∨ InB A0_2 k_ ∨ k_ = g1_) w w_) := by
  have H := wp.impl_Warp_advance.math s0 xs1 hp
  have hB := Chg.refl (fun k_ => InB A0_1 k_ ∨ InB A0_2 k_ ∨ k_ = g1_) w
  refine impl_Warp_advance.start ?_
  unfold impl_Warp_advance.vc
  unfold wp.impl_Warp_advance at H
  refine ⟨_, _, _, (O1.at 1 rfl rfl), ?_⟩
  refine ⟨_, _, _, (O1.at 1 rfl rfl), ?_⟩
  obtain ⟨⟨h0_25, h1_26⟩, H⟩ := H
  obtain ⟨a23, ha24, hat22⟩ := Row.at O2.row h0_25 h1_26
  refine ⟨h0_25, h1_26, a23, ha24, ?_⟩
  have O1 := O1.ext (Ext.drew _)
  have O2 := O2.ext (Ext.drew _)
  have O3 := O3.ext (Ext.drew _)
  have hB := hB.then (Ext.drew _)
  have hat27 := Row.re O2.row ha24 h0_25 (by first | exact h1_26 | omega | (simp at h1_26 ⊢; omega))
  refine ⟨_, (hat27 0 _ rfl), ?_⟩
  obtain ⟨⟨h0_31, h1_32⟩, H⟩ := H
  obtain ⟨a29, ha30, hat28⟩ := Row.at (R1.chgS hB D1) h0_31 h1_32
  refine ⟨h0_31, h1_32, a29, ha30, ?_⟩
  refine ⟨_, (hat28 0 _ rfl), ?_⟩
  refine ⟨_, (hat28 1 _ rfl), ?_⟩
  refine ⟨_, (hat28 2 _ rfl), ?_⟩
  refine ⟨_, (hat28 3 _ rfl), ?_⟩
  refine newBlk (fun g5_ w33 L5 P5 e34 => ?_)
  have N1_5 := O1.ne L5
  have N2_5 := O2.apart_new L5
  have N3_5 := O3.apart_new L5
  have O1 := O1.ext e34
  have O2 := O2.ext e34
  have O3 := O3.ext e34
  have O5 := P5
  have L5 := Nat.le_trans hB.size L5
  have hB := hB.then e34
  refine stBlk O5 (o := 0) (cs' := #[(.int .i64 ((rd xs1 ((rd s0.Frames (IntKind.wrap .i64 (((s0.Frames.length : Nat) : Int) - 1))).Pc)).Op)), (.int .i64 ((rd xs1 ((rd s0.Frames (IntKind.wrap .i64 (((s0.Frames.length : Nat) : Int) - 1))).Pc)).A)), (.int .i64 ((rd xs1 ((rd s0.Frames (IntKind.wrap .i64 (((s0.Frames.length : Nat) : Int) - 1))).Pc)).B)), (.int .i64 ((rd xs1 ((rd s0.Frames (IntKind.wrap .i64 (((s0.Frames.length : Nat) : Int) - 1))).Pc)).C))]) rfl rfl (Nat.le_of_ble_eq_true rfl) rfl (fun w35 P5 e36 => ?_)
  have O1_ := O1.chg e36 N1_5
  have O2_ := O2.chg e36 N2_5
  have O3_ := O3.chg e36 N3_5
  have O1 := O1_
  have O2 := O2_
  have O3 := O3_
  have hB := hB.chgb e36 (Or.inl L5)
  have O5 := P5
  have hat37 := Row.re O2.row ha24 h0_25 (by first | exact h1_26 | omega | (simp at h1_26 ⊢; omega))
  refine ⟨_, (hat37 2 _ rfl), ?_⟩
  obtain ⟨r38, hr39⟩ : ∃ r_, r_ = M.impl_LanesOf ((rd s0.Frames (IntKind.wrap .i64 (((s0.Frames.length : Nat) : Int) - 1))).Mask) := ⟨_, rfl⟩
  have H := H r38 hr39
  refine (impl_LanesOf.con hr39 ).mono ?_
  rintro _ w41 ⟨A43, c44, rfl, P6, e42⟩
  have N6_1 := P6.apart_old O1.lt
  have N2_6 := Own.apart2_new O2 P6 (Nat.le_refl _)
  have N3_6 := Own.apart2_new O3 P6 (Nat.le_refl _)
  have N6_5 := P6.apart_old O5.lt
  have O1 := O1.ext e42
  have O2 := O2.ext e42
  have O3 := O3.ext e42
  have O5 := O5.ext e42
  have O6 := P6.mono hB.size
  have hB := hB.then e42
  refine ⟨A43, r38.length, c44, rfl, ?_⟩
  obtain ⟨J79, ⟨m140, hJ139⟩, hS80⟩ := H
  refine ⟨fun m_ z_ w_ => ∃ (i75 : Int) (xs76 : List Int), z_ = (i75, ()) ∧ J79 m_ (i75, xs76, ()) ∧ Chg (fun k_ => InB A0_1 k_ ∨ InB A0_2 k_ ∨ k_ = g1_) w w_ ∧ Own el3 w_ 0 A0_2 c0_2 xs76 ∧ s0.Regs.length = xs76.length ∧ Plc w_ g1_ o1_ 31 R1_ #[(.int .i64 s0.Number), (.slice A0_1 s0.Frames.length c0_1), (.slice A0_2 s0.Regs.length c0_2)] ∧ Own el130 w_ 0 A0_1 c0_1 s0.Frames ∧ Blk w_ g5_ 89 #[(.int .i64 ((rd xs1 ((rd s0.Frames (IntKind.wrap .i64 (((s0.Frames.length : Nat) : Int) - 1))).Pc)).Op)), (.int .i64 ((rd xs1 ((rd s0.Frames (IntKind.wrap .i64 (((s0.Frames.length : Nat) : Int) - 1))).Pc)).A)), (.int .i64 ((rd xs1 ((rd s0.Frames (IntKind.wrap .i64 (((s0.Frames.length : Nat) : Int) - 1))).Pc)).B)), (.int .i64 ((rd xs1 ((rd s0.Frames (IntKind.wrap .i64 (((s0.Frames.length : Nat) : Int) - 1))).Pc)).C))] ∧ Own el3 w_ w.heap.size A43 c44 r38, ⟨m140, 0, s0.Regs, rfl, hJ139, hB, O3, (by first | rfl | assumption | omega | (simp; done) | (simp; omega) | (simp; assumption)), O1, O2, O5, O6⟩, ?_⟩
  rintro m78 _ w82 ⟨i75, xs76, rfl, hJ141, hB, O3, hn77, O1, O2, O5, O6⟩
  have H := hS80 m78 _ hJ141
  clear hS80 hJ141
  try dsimp only at H ⊢
  refine bcase_mk (fun hc137 => ?_) (fun hc137 => ?_)
  · have H := (bcase_iff.1 H).1 hc137
    obtain ⟨⟨h0_86, h1_87⟩, H⟩ := H
    obtain ⟨a84, ha85, hat83⟩ := Row.at O6.row h0_86 h1_87
    refine ⟨h0_86, h1_87, a84, ha85, ?_⟩
    refine ⟨_, (hat83 0 _ rfl), ?_⟩
    refine ⟨(InB A0_2), ?_⟩
    refine ⟨_, ⟨(notM1 (N3_5).inb (by first | rfl | (simp only [blk_add]))), (O5.at 0 rfl rfl)⟩, ?_⟩
    refine ⟨_, ⟨(notM1 (N3_5).inb (by first | rfl | (simp only [blk_add]))), (O5.at 1 rfl rfl)⟩, ?_⟩
    refine ⟨_, ⟨(notM1 (N3_5).inb (by first | rfl | (simp only [blk_add]))), (O5.at 2 rfl rfl)⟩, ?_⟩
    refine ⟨_, ⟨(notM1 (N3_5).inb (by first | rfl | (simp only [blk_add]))), (O5.at 3 rfl rfl)⟩, ?_⟩
    refine ⟨_, ⟨(notM1 ((O3.apart_type O1.b (by decide))).inb (by first | rfl | (simp only [blk_add]))), (O1.at 0 rfl rfl)⟩, ?_⟩
    refine ⟨_, ⟨(notM1 ((O3.apart_type O1.b (by decide))).inb (by first | rfl | (simp only [blk_add]))), (O1.at 0 rfl rfl)⟩, ?_⟩
    refine ⟨_, _, _, ⟨(notM1 ((O3.apart_type O1.b (by decide))).inb (by first | rfl | (simp only [blk_add]))), (O1.at 1 rfl rfl)⟩, ?_⟩
    refine ⟨_, _, _, ⟨(notM1 ((O3.apart_type O1.b (by decide))).inb (by first | rfl | (simp only [blk_add]))), (O1.at 2 rfl rfl)⟩, ?_⟩
    have hS88 := Chg.refl (InB A0_2) w82
    have O1 := O1.ext (Ext.drew _)
    have O2 := O2.ext (Ext.drew _)
    have O3 := O3.ext (Ext.drew _)
    have O5 := O5.ext (Ext.drew _)
    have O6 := O6.ext (Ext.drew _)
    have hB := hB.then (Ext.drew _)
    have hS88 := hS88.then (Ext.drew _)
    obtain ⟨hp98, H⟩ := H
    refine (cllArgs (by first | (simp only [List.length_set, ← hn77]; done) | (simp; done)) (impl_Warp_lane.con hp98 O2.row O2.le O3.row O3.le)).mono ?_
    rintro _ w99 ⟨rfl, e100⟩
    have O1 := O1.ext e100
    have O2 := O2.ext e100
    have O3 := O3.ext e100
    have O5 := O5.ext e100
    have O6 := O6.ext e100
    have hB := hB.then e100
    have hS88 := hS88.then e100
    have hv10_ : ((IntKind.wrap .i64 ((rd r38 i75) * 4)).toNat) ≤ (List.take ((IntKind.wrap .i64 ((IntKind.wrap .i64 ((rd r38 i75) + 1)) * 4)).toNat) xs76).length := impl_Warp_lane.cut hp98
    have O10 := (O3.take ((IntKind.wrap .i64 ((IntKind.wrap .i64 ((rd r38 i75) + 1)) * 4)).toNat)).drop (l := ((IntKind.wrap .i64 ((rd r38 i75) * 4)).toNat)) hv10_
    refine ⟨(cutA c0_2 ((IntKind.wrap .i64 ((rd r38 i75) * 4)).toNat) A0_2 1), (List.drop ((IntKind.wrap .i64 ((rd r38 i75) * 4)).toNat) (List.take ((IntKind.wrap .i64 ((IntKind.wrap .i64 ((rd r38 i75) + 1)) * 4)).toNat) xs76)).length, (c0_2 - ((IntKind.wrap .i64 ((rd r38 i75) * 4)).toNat)), rfl, ?_⟩
    refine ⟨sameBut_chg hS88, ?_⟩
    obtain ⟨hp103, H⟩ := H
    obtain ⟨r101, hr102⟩ : ∃ r_, r_ = M.impl_apply_v (rd xs1 ((rd s0.Frames (IntKind.wrap .i64 (((s0.Frames.length : Nat) : Int) - 1))).Pc)) (IntKind.wrap .i64 ((IntKind.wrap .i64 (s0.Number * 8)) + (rd r38 i75))) xs76 ((IntKind.wrap .i64 ((rd r38 i75) * 4)).toNat) ((IntKind.wrap .i64 ((IntKind.wrap .i64 ((rd r38 i75) + 1)) * 4)).toNat) := ⟨_, rfl⟩
    have H := H r101 hr102
    refine (impl_apply_v.con hp103 hr102 (O3.mono (Nat.zero_le _)) hv10_).mono ?_
    rintro _ w104 ⟨rfl, Q3, hl106, e105⟩
    have O1 := O1.chgS e105 ((O3.apart_type O1.b (by decide))).inb
    have O2 := O2.chgS e105 ((Own.apart2_type O2 O3 (by decide))).inb
    have O5 := O5.chgS e105 (N3_5).inb
    have O6 := O6.chgS e105 ((N3_6).symm).inb
    have hS88 := hS88.chg e105 (fun g => (fun h_ => (Or.inr h_)))
    have hB := hB.chg e105 (fun g h_ => (Or.inr (Or.inr (Or.inl h_))))
    have O3 := Q3
    refine ⟨rfl, ?_⟩
    refine ⟨sameBut_chg hS88, ?_⟩
    obtain ⟨m107, hm108, hJ109⟩ := H
    exact ⟨m107, hm108, (IntKind.wrap .i64 (i75 + 1)), r101, rfl, hJ109, hB, O3, (by first | rfl | assumption | omega | (simp; done) | (simp; omega) | (simp; assumption)), O1, O2, O5, O6⟩
  have H := (bcase_iff.1 H).2 hc137
  refine ⟨_, (O5.at 0 rfl rfl), ?_⟩
  refine bcase_mk (fun hc136 => ?_) (fun hc136 => ?_)
  · have H := (bcase_iff.1 H).1 hc136
    refine Own.storeAt O2 ha24 h0_25 h1_26 0 [(.int .i64 ((xs1.length : Nat) : Int))] (⟨((xs1.length : Nat) : Int), (rd s0.Frames (IntKind.wrap .i64 (((s0.Frames.length : Nat) : Int) - 1))).Stop, (rd s0.Frames (IntKind.wrap .i64 (((s0.Frames.length : Nat) : Int) - 1))).Mask⟩ : D.Frame) rfl (Nat.le_of_ble_eq_true rfl) rfl (fun w110 P2 e111 hb112 => ?_)
    have O1_ := O1.chg e111 (fun h_ => ((O2.apart_type O1.b (by decide))) _ ha24 h_.symm)
    have O3_ := O3.chg e111 (((Own.apart2_type O3 O2 (by decide))).left ha24)
    have O5_ := O5.chg e111 (fun h_ => (N2_5) _ ha24 h_.symm)
    have O1 := O1_
    have O3 := O3_
    have O5 := O5_
    have hB := hB.chgb e111 (Or.inr (Or.inl ⟨_, ha24, rfl⟩))
    have O2 := P2
    obtain rfl := hr.trans H.symm
    exact ⟨A0_1, c0_1, A0_2, c0_2, rfl, (by first | exact O1 | (simp only [List.length_set, ← hn77]; exact O1)), (O2.mono (Nat.zero_le _)), (Mov.same _ _), (O3.mono (Nat.zero_le _)), (Mov.same _ _), hB⟩
  have H := (bcase_iff.1 H).2 hc136
  obtain ⟨K135, hKK135, H⟩ := joinP_out H
  refine ⟨fun z_ w_ => ∃ (b113 : Bool), z_ = (b113, ()) ∧ K135 (b113, ()) ∧ Chg (fun k_ => InB A0_1 k_ ∨ InB A0_2 k_ ∨ k_ = g1_) w w_ ∧ Plc w_ g1_ o1_ 31 R1_ #[(.int .i64 s0.Number), (.slice A0_1 s0.Frames.length c0_1), (.slice A0_2 s0.Regs.length c0_2)] ∧ Own el130 w_ 0 A0_1 c0_1 s0.Frames ∧ Own el3 w_ 0 A0_2 c0_2 xs76 ∧ Blk w_ g5_ 89 #[(.int .i64 ((rd xs1 ((rd s0.Frames (IntKind.wrap .i64 (((s0.Frames.length : Nat) : Int) - 1))).Pc)).Op)), (.int .i64 ((rd xs1 ((rd s0.Frames (IntKind.wrap .i64 (((s0.Frames.length : Nat) : Int) - 1))).Pc)).A)), (.int .i64 ((rd xs1 ((rd s0.Frames (IntKind.wrap .i64 (((s0.Frames.length : Nat) : Int) - 1))).Pc)).B)), (.int .i64 ((rd xs1 ((rd s0.Frames (IntKind.wrap .i64 (((s0.Frames.length : Nat) : Int) - 1))).Pc)).C))], ?_, ?_⟩
  · refine ⟨(fun _ => False), ?_⟩
    refine ⟨_, ⟨(fun h_ => h_), (O5.at 0 rfl rfl)⟩, ?_⟩
    refine bcase_mk (fun hc125 => ?_) (fun hc125 => ?_)
    · have H := (bcase_iff.1 H).1 hc125
      have O1 := O1.ext (Ext.drew _)
      have O2 := O2.ext (Ext.drew _)
      have O3 := O3.ext (Ext.drew _)
      have O5 := O5.ext (Ext.drew _)
      have hB := hB.then (Ext.drew _)
      exact ⟨true, rfl, H, hB, O1, O2, O3, O5⟩
    have H := (bcase_iff.1 H).2 hc125
    refine ⟨_, ⟨(fun h_ => h_), (O5.at 0 rfl rfl)⟩, ?_⟩
    refine bcase_mk (fun hc124 => ?_) (fun hc124 => ?_)
    · have H := (bcase_iff.1 H).1 hc124
      refine ⟨_, ⟨(fun h_ => h_), (O1.at 0 rfl rfl)⟩, ?_⟩
      refine ⟨_, _, _, ⟨(fun h_ => h_), (O1.at 1 rfl rfl)⟩, ?_⟩
      refine ⟨_, _, _, ⟨(fun h_ => h_), (O1.at 2 rfl rfl)⟩, ?_⟩
      refine ⟨_, ⟨(fun h_ => h_), (O5.at 1 rfl rfl)⟩, ?_⟩
      have hat118 := Row.re O2.row ha24 h0_25 (by first | exact h1_26 | omega | (simp at h1_26 ⊢; omega))
      refine ⟨_, ⟨(fun h_ => h_), (hat118 2 _ rfl)⟩, ?_⟩
      have hS117 := Chg.refl (fun _ => False) w82
      have O1 := O1.ext (Ext.drew _)
      have O2 := O2.ext (Ext.drew _)
      have O3 := O3.ext (Ext.drew _)
      have O5 := O5.ext (Ext.drew _)
      have hB := hB.then (Ext.drew _)
      have hS117 := hS117.then (Ext.drew _)
      obtain ⟨hp121, H⟩ := H
      obtain ⟨r119, hr120⟩ : ∃ r_, r_ = M.impl_Warp_zeroMask (⟨s0.Number, s0.Frames, xs76⟩ : D.Warp) ((rd xs1 ((rd s0.Frames (IntKind.wrap .i64 (((s0.Frames.length : Nat) : Int) - 1))).Pc)).A) := ⟨_, rfl⟩
      have H := H r119 hr120
      refine (cllArgs (by first | (simp only [List.length_set, ← hn77]; done) | (simp; done)) (impl_Warp_zeroMask.con hp121 hr120 O2.row O2.le O3.row O3.le)).mono ?_
      rintro _ w122 ⟨rfl, e123⟩
      have O1 := O1.ext e123
      have O2 := O2.ext e123
      have O3 := O3.ext e123
      have O5 := O5.ext e123
      have hB := hB.then e123
      have hS117 := hS117.then e123
      refine ⟨r119, rfl, ?_⟩
      refine ⟨sameBut_chg hS117, ?_⟩
      exact ⟨(r119 == (rd s0.Frames (IntKind.wrap .i64 (((s0.Frames.length : Nat) : Int) - 1))).Mask), rfl, H, hB, O1, O2, O3, O5⟩
    have H := (bcase_iff.1 H).2 hc124
    have O1 := O1.ext (Ext.drew _)
    have O2 := O2.ext (Ext.drew _)
    have O3 := O3.ext (Ext.drew _)
    have O5 := O5.ext (Ext.drew _)
    have hB := hB.then (Ext.drew _)
    exact ⟨false, rfl, H, hB, O1, O2, O3, O5⟩
  rintro _ w115 ⟨b113, rfl, H, hB, O1, O2, O3, O5⟩
  have H := hKK135 _ H
  try dsimp only at H ⊢
  refine bcase_mk (fun hc133 => ?_) (fun hc133 => ?_)
  · have H := (bcase_iff.1 H).1 hc133
    refine ⟨_, (O5.at 2 rfl rfl), ?_⟩
    refine Own.storeAt O2 ha24 h0_25 h1_26 0 [(.int .i64 ((rd xs1 ((rd s0.Frames (IntKind.wrap .i64 (((s0.Frames.length : Nat) : Int) - 1))).Pc)).B))] (⟨(rd xs1 ((rd s0.Frames (IntKind.wrap .i64 (((s0.Frames.length : Nat) : Int) - 1))).Pc)).B, (rd s0.Frames (IntKind.wrap .i64 (((s0.Frames.length : Nat) : Int) - 1))).Stop, (rd s0.Frames (IntKind.wrap .i64 (((s0.Frames.length : Nat) : Int) - 1))).Mask⟩ : D.Frame) rfl (Nat.le_of_ble_eq_true rfl) rfl (fun w126 P2 e127 hb128 => ?_)
    have O1_ := O1.chg e127 (fun h_ => ((O2.apart_type O1.b (by decide))) _ ha24 h_.symm)
    have O3_ := O3.chg e127 (((Own.apart2_type O3 O2 (by decide))).left ha24)
    have O5_ := O5.chg e127 (fun h_ => (N2_5) _ ha24 h_.symm)
    have O1 := O1_
    have O3 := O3_
    have O5 := O5_
    have hB := hB.chgb e127 (Or.inr (Or.inl ⟨_, ha24, rfl⟩))
    have O2 := P2
    obtain rfl := hr.trans H.symm
    exact ⟨A0_1, c0_1, A0_2, c0_2, rfl, (by first | exact O1 | (simp only [List.length_set, ← hn77]; exact O1)), (O2.mono (Nat.zero_le _)), (Mov.same _ _), (O3.mono (Nat.zero_le _)), (Mov.same _ _), hB⟩
  have H := (bcase_iff.1 H).2 hc133
  have hat129 := Row.re O2.row ha24 h0_25 (by first | exact h1_26 | omega | (simp at h1_26 ⊢; omega))
  refine ⟨_, (hat129 0 _ rfl), ?_⟩
  refine Own.storeAt O2 ha24 h0_25 h1_26 0 [(.int .i64 (IntKind.wrap .i64 ((rd s0.Frames (IntKind.wrap .i64 (((s0.Frames.length : Nat) : Int) - 1))).Pc + 1)))] (⟨(IntKind.wrap .i64 ((rd s0.Frames (IntKind.wrap .i64 (((s0.Frames.length : Nat) : Int) - 1))).Pc + 1)), (rd s0.Frames (IntKind.wrap .i64 (((s0.Frames.length : Nat) : Int) - 1))).Stop, (rd s0.Frames (IntKind.wrap .i64 (((s0.Frames.length : Nat) : Int) - 1))).Mask⟩ : D.Frame) rfl (Nat.le_of_ble_eq_true rfl) rfl (fun w130 P2 e131 hb132 => ?_)
  have O1_ := O1.chg e131 (fun h_ => ((O2.apart_type O1.b (by decide))) _ ha24 h_.symm)
  have O3_ := O3.chg e131 (((Own.apart2_type O3 O2 (by decide))).left ha24)
  have O5_ := O5.chg e131 (fun h_ => (N2_5) _ ha24 h_.symm)
  have O1 := O1_
  have O3 := O3_
  have O5 := O5_
  have hB := hB.chgb e131 (Or.inr (Or.inl ⟨_, ha24, rfl⟩))
  have O2 := P2
  obtain rfl := hr.trans H.symm
  exact ⟨A0_1, c0_1, A0_2, c0_2, rfl, (by first | exact O1 | (simp only [List.length_set, ← hn77]; exact O1)), (O2.mono (Nat.zero_le _)), (Mov.same _ _), (O3.mono (Nat.zero_le _)), (Mov.same _ _), hB⟩
def impl_Warp_drop.vc (p0 : Addr) (x1 : Int) (w : World) (K : Value → World → Prop) : Prop :=
  LoopT (σ := Unit) (fun z21 w22 next23 => ∃ (A24 : Option Addr) (n25 : Nat) (c26 : Nat), w22.cell? ((p0.add 1).add 0) = some (.slice A24 n25 c26) ∧ bcase (decide (((n25 : Nat) : Int) > 0)) ((∃ M27 : Nat → Prop, ∃ (A28 : Option Addr) (n29 : Nat) (c30 : Nat), (¬ M27 ((p0.add 1)).block ∧ w22.cell? ((p0.add 1).add 0) = some (.slice A28 n29 c30)) ∧ ∃ (A31 : Option Addr) (n32 : Nat) (c33 : Nat), (¬ M27 ((p0.add 1)).block ∧ w22.cell? ((p0.add 1).add 0) = some (.slice A31 n32 c33)) ∧ ((0 : Int) ≤ (IntKind.wrap .i64 (((n32 : Nat) : Int) - 1)) ∧ (IntKind.wrap .i64 (((n32 : Nat) : Int) - 1)) < ((n29 : Nat) : Int) ∧ ∃ a34 : Addr, A28 = some a34 ∧ ∃ (n35 : Int), (¬ M27 ((a34.add (((IntKind.wrap .i64 (((n32 : Nat) : Int) - 1)).toNat) * 3))).block ∧ w22.cell? ((a34.add (((IntKind.wrap .i64 (((n32 : Nat) : Int) - 1)).toNat) * 3)).add 0) = some (.int .i64 n35)) ∧ ∃ (n36 : Int), (¬ M27 ((a34.add (((IntKind.wrap .i64 (((n32 : Nat) : Int) - 1)).toNat) * 3))).block ∧ w22.cell? ((a34.add (((IntKind.wrap .i64 (((n32 : Nat) : Int) - 1)).toNat) * 3)).add 1) = some (.int .i64 n36)) ∧ ∃ (n37 : Int), (¬ M27 ((a34.add (((IntKind.wrap .i64 (((n32 : Nat) : Int) - 1)).toNat) * 3))).block ∧ w22.cell? ((a34.add (((IntKind.wrap .i64 (((n32 : Nat) : Int) - 1)).toNat) * 3)).add 2) = some (.int .i64 n37)) ∧ newK w22.drew (.cells #[(.int .i64 0), (.int .i64 0), (.int .i64 0)] 130) fun g38 w39 => SameBut M27 w22 w39 ∧ stCells (⟨g38, 0, none⟩ : Addr) [(.int .i64 n35), (.int .i64 n36), (.int .i64 n37)] 0 w39 fun w40 => JoinT (σ := Unit) (fun J41 => ∃ (n42 : Int), w40.cell? (((⟨g38, 0, none⟩ : Addr).add 0).add 0) = some (.int .i64 n42) ∧ ∃ (n43 : Int), w40.cell? (((⟨g38, 0, none⟩ : Addr).add 1).add 0) = some (.int .i64 n43) ∧ bcase (n42 != n43) (∃ (n44 : Int), w40.cell? (((⟨g38, 0, none⟩ : Addr).add 0).add 0) = some (.int .i64 n44) ∧ bcase (n44 != x1) (K (.tuple #[]) w40) (J41 () w40)) (J41 () w40)) fun z45 w46 => ((∃ (A47 : Option Addr) (n48 : Nat) (c49 : Nat), w46.drew.cell? ((p0.add 1).add 0) = some (.slice A47 n48 c49) ∧ ((∃ (A50 : Option Addr) (n51 : Nat) (c52 : Nat), w46.drew.cell? ((p0.add 1).add 0) = some (.slice A50 n51 c52) ∧ ((0 : Int) ≤ (IntKind.wrap .i64 (((n51 : Nat) : Int) - 1)) ∧ (IntKind.wrap .i64 (((n51 : Nat) : Int) - 1)) ≤ ((c49 : Nat) : Int) ∧ ((stCells (p0.add 1) [(.slice A47 ((IntKind.wrap .i64 (((n51 : Nat) : Int) - 1)).toNat) c49)] 0 w46.drew fun w53 => next23 () w53) ∧ True))) ∧ True)) ∧ (∃ (A54 : Option Addr) (n55 : Nat) (c56 : Nat), w46.drew.cell? ((p0.add 1).add 0) = some (.slice A54 n55 c56) ∧ ((∃ (A57 : Option Addr) (n58 : Nat) (c59 : Nat), w46.drew.cell? ((p0.add 1).add 0) = some (.slice A57 n58 c59) ∧ ((0 : Int) ≤ (IntKind.wrap .i64 (((n55 : Nat) : Int) - 1)) ∧ (IntKind.wrap .i64 (((n55 : Nat) : Int) - 1)) ≤ ((c59 : Nat) : Int) ∧ ((stCells (p0.add 1) [(.slice A57 ((IntKind.wrap .i64 (((n55 : Nat) : Int) - 1)).toNat) c59)] 0 w46.drew fun w60 => next23 () w60) ∧ True))) ∧ True)) ∧ True)))) (K (.tuple #[]) w22)) () w

def impl_Warp_drop.ann : Ann := (.one (.loop [] (.seq (.seq .l (.two .l .l)) (.one (.seq .l (.cut [] (.seq .l (.two .l .l)) .each))))))

theorem impl_Warp_drop.start {p0 : Addr} {x1 : Int} {w : World} {K : Value → World → Prop} (h : impl_Warp_drop.vc p0 x1 w K) : Cll Tryz.prog 147 #[(.pointer (some p0)), (.int .i64 x1)] w K :=
  vcF_sound mixed (fn := Tryz.f147) (by kernel_rfl) (by kernel_rfl) (an := impl_Warp_drop.ann) (args := [(.pointer (some p0)), (.int .i64 x1)]) (Eq.mpr (by kernel_rfl) h)

theorem impl_Warp_drop.con {s0 : D.Warp} {g1_ : Nat} {A0_1 : Option Addr} {c0_1 : Nat} {A0_2 : Option Addr} {c0_2 : Nat} {o1_ : Nat} {R1_ : Array Value} {x1 : Int} {r : D.Warp} {w : World} (hp : M.impl_Warp_drop_pre s0 x1) (hr : r = M.impl_Warp_drop s0 x1) (O1 : Plc w g1_ o1_ 31 R1_ #[(.int .i64 s0.Number), (.slice A0_1 s0.Frames.length c0_1), (.slice A0_2 s0.Regs.length c0_2)]) (O2 : Own el130 w 0 A0_1 c0_1 s0.Frames) (R0_2 : Row el3 w A0_2 s0.Regs) (hc0_2 : s0.Regs.length ≤ c0_2) (D0_2 : s0.Regs ≠ [] → ∀ g, InB A0_2 g → ¬ (fun k_ => InB A0_1 k_ ∨ k_ = g1_) g) :
    Cll Tryz.prog 147 #[(.pointer (some (⟨g1_, o1_, none⟩ : Addr))), (.int .i64 x1)] w (fun v_ w_ => ∃ (A0_ : Option Addr) (c0_ : Nat), v_ = (.tuple #[]) ∧ Plc w_ g1_ o1_ 31 R1_ #[(.int .i64 r.Number), (.slice A0_ r.Frames.length c0_), (.slice A0_2 r.Regs.length c0_2)] ∧ Own el130 w_ 0 A0_ c0_ r.Frames ∧ Mov w A0_1 A0_ ∧ r.Regs = s0.Regs ∧ Chg (fun k_ => InB A0_1 k_ ∨ k_ = g1_) w w_) := by
  have H := wp.impl_Warp_drop.math s0 x1 hp
  have hB := Chg.refl (fun k_ => InB A0_1 k_ ∨ k_ = g1_) w
  refine impl_Warp_drop.start ?_
  unfold impl_Warp_drop.vc
  unfold wp.impl_Warp_drop at H
  obtain ⟨J75, ⟨m113, hJ112⟩, hS76⟩ := H
  refine ⟨fun m_ z_ w_ => ∃ (i70 : Int) (xs71 : List D.Frame) (A72 : Option Addr) (c73 : Nat), z_ = (()) ∧ J75 m_ (i70, xs71, ()) ∧ Chg (fun k_ => InB A0_1 k_ ∨ k_ = g1_) w w_ ∧ Plc w_ g1_ o1_ 31 R1_ #[(.int .i64 i70), (.slice A72 xs71.length c73), (.slice A0_2 s0.Regs.length c0_2)] ∧ Own el130 w_ 0 A72 c73 xs71 ∧ Mov w A0_1 A72, ⟨m113, s0.Number, s0.Frames, A0_1, c0_1, rfl, hJ112, hB, O1, O2, (Mov.same _ _)⟩, ?_⟩
  rintro m74 _ w78 ⟨i70, xs71, A72, c73, rfl, hJ114, hB, O1, O8, Mv8⟩
  have H := hS76 m74 _ hJ114
  clear hS76 hJ114
  try dsimp only at H ⊢
  refine ⟨_, _, _, (O1.at 1 rfl rfl), ?_⟩
  refine bcase_mk (fun hc110 => ?_) (fun hc110 => ?_)
  · have H := (bcase_iff.1 H).1 hc110
    refine ⟨(fun _ => False), ?_⟩
    refine ⟨_, _, _, ⟨(fun h_ => h_), (O1.at 1 rfl rfl)⟩, ?_⟩
    refine ⟨_, _, _, ⟨(fun h_ => h_), (O1.at 1 rfl rfl)⟩, ?_⟩
    obtain ⟨⟨h0_83, h1_84⟩, H⟩ := H
    obtain ⟨a81, ha82, hat80⟩ := Row.at O8.row h0_83 h1_84
    refine ⟨h0_83, h1_84, a81, ha82, ?_⟩
    refine ⟨_, ⟨(fun h_ => h_), (hat80 0 _ rfl)⟩, ?_⟩
    refine ⟨_, ⟨(fun h_ => h_), (hat80 1 _ rfl)⟩, ?_⟩
    refine ⟨_, ⟨(fun h_ => h_), (hat80 2 _ rfl)⟩, ?_⟩
    have hS79 := Chg.refl (fun _ => False) w78
    have O1 := O1.ext (Ext.drew _)
    have O8 := O8.ext (Ext.drew _)
    have hB := hB.then (Ext.drew _)
    have hS79 := hS79.then (Ext.drew _)
    refine newBlk (fun g9_ w85 L9 P9 e86 => ?_)
    have N1_9 := O1.ne L9
    have N8_9 := O8.apart_new L9
    have O1 := O1.ext e86
    have O8 := O8.ext e86
    have O9 := P9
    have LB9 := Nat.le_trans hS79.size L9
    have L9 := Nat.le_trans hB.size L9
    have hB := hB.then e86
    have hS79 := hS79.then e86
    refine ⟨sameBut_chg hS79, ?_⟩
    refine stBlk O9 (o := 0) (cs' := #[(.int .i64 ((rd xs71 (IntKind.wrap .i64 (((xs71.length : Nat) : Int) - 1))).Pc)), (.int .i64 ((rd xs71 (IntKind.wrap .i64 (((xs71.length : Nat) : Int) - 1))).Stop)), (.int .i64 ((rd xs71 (IntKind.wrap .i64 (((xs71.length : Nat) : Int) - 1))).Mask))]) rfl rfl (Nat.le_of_ble_eq_true rfl) rfl (fun w87 P9 e88 => ?_)
    have O1_ := O1.chg e88 N1_9
    have O8_ := O8.chg e88 N8_9
    have O1 := O1_
    have O8 := O8_
    have hB := hB.chgb e88 (Or.inl L9)
    have O9 := P9
    obtain ⟨K109, hKK109, H⟩ := joinP_out H
    refine ⟨fun z_ w_ => z_ = (()) ∧ K109 (()) ∧ Chg (fun k_ => InB A0_1 k_ ∨ k_ = g1_) w w_ ∧ Plc w_ g1_ o1_ 31 R1_ #[(.int .i64 i70), (.slice A72 xs71.length c73), (.slice A0_2 s0.Regs.length c0_2)] ∧ Own el130 w_ 0 A72 c73 xs71, ?_, ?_⟩
    · refine ⟨_, (O9.at 0 rfl rfl), ?_⟩
      refine ⟨_, (O9.at 1 rfl rfl), ?_⟩
      refine bcase_mk (fun hc93 => ?_) (fun hc93 => ?_)
      · have H := (bcase_iff.1 H).1 hc93
        refine ⟨_, (O9.at 0 rfl rfl), ?_⟩
        refine bcase_mk (fun hc92 => ?_) (fun hc92 => ?_)
        · have H := (bcase_iff.1 H).1 hc92
          obtain rfl := hr.trans H.symm
          exact ⟨A72, c73, rfl, O1, (O8.mono (Nat.zero_le _)), Mv8, rfl, hB⟩
        have H := (bcase_iff.1 H).2 hc92
        exact ⟨rfl, H, hB, O1, O8⟩
      have H := (bcase_iff.1 H).2 hc93
      exact ⟨rfl, H, hB, O1, O8⟩
    rintro _ w90 ⟨rfl, H, hB, O1, O8⟩
    have H := hKK109 _ H
    try dsimp only at H ⊢
    have O1 := O1.ext (Ext.drew _)
    have O8 := O8.ext (Ext.drew _)
    have hB := hB.then (Ext.drew _)
    refine And.intro ?_ ?_
    · have H := H.1
      refine ⟨_, _, _, (O1.at 1 rfl rfl), ?_⟩
      refine and_t ?_
      refine ⟨_, _, _, (O1.at 1 rfl rfl), ?_⟩
      obtain ⟨⟨hh94, hh95⟩, H⟩ := H
      refine and_assoc.1 ⟨⟨hh94, Int.le_trans hh95 (Int.ofNat_le.2 O8.le)⟩, ?_⟩
      rw [show ((IntKind.wrap .i64 (((xs71.length : Nat) : Int) - 1)).toNat) = ((List.take ((IntKind.wrap .i64 (((xs71.length : Nat) : Int) - 1)).toNat) xs71)).length from by first | rfl | (simp; done) | (simp; omega)]
      have O10 := (O8.take ((IntKind.wrap .i64 (((xs71.length : Nat) : Int) - 1)).toNat))
      refine and_t ?_
      refine stPlc O1 (j := 1) (cs' := #[(.int .i64 i70), (.slice A72 (((List.take ((IntKind.wrap .i64 (((xs71.length : Nat) : Int) - 1)).toNat) xs71)).length) c73), (.slice A0_2 s0.Regs.length c0_2)]) rfl rfl (Nat.le_of_ble_eq_true rfl) rfl (fun w96 P1 e97 => ?_)
      have O8_ := O8.chg e97 (O8.apart_type O1.b (by decide))
      have O10_ := O10.chg e97 (O8.apart_type O1.b (by decide))
      have O8 := O8_
      have O10 := O10_
      have hB := hB.chgb e97 (Or.inr (Or.inr rfl))
      have O1 := P1
      obtain ⟨m98, hm99, hJ100⟩ := H
      exact ⟨m98, hm99, i70, (List.take ((IntKind.wrap .i64 (((xs71.length : Nat) : Int) - 1)).toNat) xs71), A72, c73, rfl, hJ100, hB, O1, O10, Mv8⟩
    refine And.intro ?_ ?_
    · have H := H.2.1
      refine ⟨_, _, _, (O1.at 1 rfl rfl), ?_⟩
      refine and_t ?_
      refine ⟨_, _, _, (O1.at 1 rfl rfl), ?_⟩
      obtain ⟨⟨hh101, hh102⟩, H⟩ := H
      refine and_assoc.1 ⟨⟨hh101, Int.le_trans hh102 (Int.ofNat_le.2 O8.le)⟩, ?_⟩
      rw [show ((IntKind.wrap .i64 (((xs71.length : Nat) : Int) - 1)).toNat) = ((List.take ((IntKind.wrap .i64 (((xs71.length : Nat) : Int) - 1)).toNat) xs71)).length from by first | rfl | (simp; done) | (simp; omega)]
      have O11 := (O8.take ((IntKind.wrap .i64 (((xs71.length : Nat) : Int) - 1)).toNat))
      refine and_t ?_
      refine stPlc O1 (j := 1) (cs' := #[(.int .i64 i70), (.slice A72 (((List.take ((IntKind.wrap .i64 (((xs71.length : Nat) : Int) - 1)).toNat) xs71)).length) c73), (.slice A0_2 s0.Regs.length c0_2)]) rfl rfl (Nat.le_of_ble_eq_true rfl) rfl (fun w103 P1 e104 => ?_)
      have O8_ := O8.chg e104 (O8.apart_type O1.b (by decide))
      have O11_ := O11.chg e104 (O8.apart_type O1.b (by decide))
      have O8 := O8_
      have O11 := O11_
      have hB := hB.chgb e104 (Or.inr (Or.inr rfl))
      have O1 := P1
      obtain ⟨m105, hm106, hJ107⟩ := H
      exact ⟨m105, hm106, i70, (List.take ((IntKind.wrap .i64 (((xs71.length : Nat) : Int) - 1)).toNat) xs71), A72, c73, rfl, hJ107, hB, O1, O11, Mv8⟩
    exact trivial
  have H := (bcase_iff.1 H).2 hc110
  obtain rfl := hr.trans H.symm
  exact ⟨A72, c73, rfl, O1, (O8.mono (Nat.zero_le _)), Mv8, rfl, hB⟩
def impl_Warp_pass.vc (p0 : Addr) (A1 : Option Addr) (n1 : Nat) (c1 : Nat) (w : World) (K : Value → World → Prop) : Prop :=
  (∃ M22 : Nat → Prop, ∃ (A23 : Option Addr) (n24 : Nat) (c25 : Nat), (¬ M22 ((p0.add 1)).block ∧ w.cell? ((p0.add 1).add 0) = some (.slice A23 n24 c25)) ∧ bcase (((n24 : Nat) : Int) == 0) (K (.bool false) w.drew) (∃ (A26 : Option Addr) (n27 : Nat) (c28 : Nat), (¬ M22 ((p0.add 1)).block ∧ w.cell? ((p0.add 1).add 0) = some (.slice A26 n27 c28)) ∧ ∃ (A29 : Option Addr) (n30 : Nat) (c31 : Nat), (¬ M22 ((p0.add 1)).block ∧ w.cell? ((p0.add 1).add 0) = some (.slice A29 n30 c31)) ∧ ((0 : Int) ≤ (IntKind.wrap .i64 (((n30 : Nat) : Int) - 1)) ∧ (IntKind.wrap .i64 (((n30 : Nat) : Int) - 1)) < ((n27 : Nat) : Int) ∧ ∃ a32 : Addr, A26 = some a32 ∧ ∃ (n33 : Int), (¬ M22 (((a32.add (((IntKind.wrap .i64 (((n30 : Nat) : Int) - 1)).toNat) * 3)).add 0)).block ∧ w.cell? (((a32.add (((IntKind.wrap .i64 (((n30 : Nat) : Int) - 1)).toNat) * 3)).add 0).add 0) = some (.int .i64 n33)) ∧ ((0 : Int) ≤ n33 ∧ n33 < ((n1 : Nat) : Int) ∧ ∃ a34 : Addr, A1 = some a34 ∧ ∃ (n35 : Int), (¬ M22 ((a34.add ((n33.toNat) * 4))).block ∧ w.cell? ((a34.add ((n33.toNat) * 4)).add 0) = some (.int .i64 n35)) ∧ ∃ (n36 : Int), (¬ M22 ((a34.add ((n33.toNat) * 4))).block ∧ w.cell? ((a34.add ((n33.toNat) * 4)).add 1) = some (.int .i64 n36)) ∧ ∃ (n37 : Int), (¬ M22 ((a34.add ((n33.toNat) * 4))).block ∧ w.cell? ((a34.add ((n33.toNat) * 4)).add 2) = some (.int .i64 n37)) ∧ ∃ (n38 : Int), (¬ M22 ((a34.add ((n33.toNat) * 4))).block ∧ w.cell? ((a34.add ((n33.toNat) * 4)).add 3) = some (.int .i64 n38)) ∧ Cll Tryz.prog 143 #[(.agg #[(.int .i64 n35), (.int .i64 n36), (.int .i64 n37), (.int .i64 n38)])] w.drew fun v39 w40 => (∃ (b41 : Bool), v39 = (.bool b41) ∧ SameBut M22 w w40 ∧ bcase (!b41) (K (.bool false) w40) (∃ (n42 : Int), w40.cell? (p0.add 0) = some (.int .i64 n42) ∧ ∃ (A43 : Option Addr) (n44 : Nat) (c45 : Nat), w40.cell? (p0.add 1) = some (.slice A43 n44 c45) ∧ ∃ (A46 : Option Addr) (n47 : Nat) (c48 : Nat), w40.cell? (p0.add 2) = some (.slice A46 n47 c48) ∧ Cll Tryz.prog 93 #[(.agg #[(.int .i64 n42), (.slice A43 n44 c45), (.slice A46 n47 c48)]), (.slice A1 n1 c1)] w40 fun v49 w50 => (∃ (b51 : Bool), v49 = (.bool b51) ∧ bcase b51 (Cll Tryz.prog 145 #[(.pointer (some p0)), (.slice A1 n1 c1)] w50 fun v52 w53 => (∃ (b54 : Bool), v52 = (.bool b54) ∧ bcase (!b54) (K (.bool false) w53) (Cll Tryz.prog 147 #[(.pointer (some p0)), (.int .i64 ((n1 : Nat) : Int))] w53 fun v55 w56 => (v55 = (.tuple #[]) ∧ K (.bool true) w56)))) (Cll Tryz.prog 146 #[(.pointer (some p0)), (.slice A1 n1 c1)] w50 fun v57 w58 => (v57 = (.tuple #[]) ∧ Cll Tryz.prog 147 #[(.pointer (some p0)), (.int .i64 ((n1 : Nat) : Int))] w58 fun v59 w60 => (v59 = (.tuple #[]) ∧ K (.bool true) w60))))))))))

def impl_Warp_pass.ann : Ann := (.seq .l (.seq (.seq .l (.two (.seq .l .l) .l)) (.seq (.seq .l (.two (.seq .l (.two (.seq .l .l) .l)) .l)) (.seq .l (.seq .l .l)))))

theorem impl_Warp_pass.start {p0 : Addr} {A1 : Option Addr} {n1 : Nat} {c1 : Nat} {w : World} {K : Value → World → Prop} (h : impl_Warp_pass.vc p0 A1 n1 c1 w K) : Cll Tryz.prog 76 #[(.pointer (some p0)), (.slice A1 n1 c1)] w K :=
  vcF_sound mixed (fn := Tryz.f76) (by kernel_rfl) (by kernel_rfl) (an := impl_Warp_pass.ann) (args := [(.pointer (some p0)), (.slice A1 n1 c1)]) (Eq.mpr (by kernel_rfl) h)

theorem impl_Warp_pass.con {s0 : D.Warp} {g1_ : Nat} {A0_1 : Option Addr} {c0_1 : Nat} {A0_2 : Option Addr} {c0_2 : Nat} {o1_ : Nat} {R1_ : Array Value} {xs1 : List D.Ins} {A1 : Option Addr} {c1 : Nat} {r : Bool × D.Warp} {w : World} (hp : M.impl_Warp_pass_pre s0 xs1) (hr : r = M.impl_Warp_pass s0 xs1) (O1 : Plc w g1_ o1_ 31 R1_ #[(.int .i64 s0.Number), (.slice A0_1 s0.Frames.length c0_1), (.slice A0_2 s0.Regs.length c0_2)]) (O2 : Own el130 w 0 A0_1 c0_1 s0.Frames) (O3 : Own el3 w 0 A0_2 c0_2 s0.Regs) (R1 : Row el89 w A1 xs1) (hc1 : xs1.length ≤ c1) (D1 : xs1 ≠ [] → ∀ g, InB A1 g → ¬ (fun k_ => InB A0_1 k_ ∨ InB A0_2 k_ ∨ k_ = g1_) g) :
    Cll Tryz.prog 76 #[(.pointer (some (⟨g1_, o1_, none⟩ : Addr))), (.slice A1 xs1.length c1)] w (fun v_ w_ => ∃ (A0_ : Option Addr) (c0_ : Nat) (A1_ : Option Addr) (c1_ : Nat), v_ = (.bool r.1) ∧ Plc w_ g1_ o1_ 31 R1_ #[(.int .i64 r.2.Number), (.slice A0_ r.2.Frames.length c0_), (.slice A1_ r.2.Regs.length c1_)] ∧ Own el130 w_ 0 A0_ c0_ r.2.Frames ∧ Mov w A0_1 A0_ ∧ Own el3 w_ 0 A1_ c1_ r.2.Regs ∧ Mov w A0_2 A1_ ∧ Chg (fun k_ => InB A0_1 k_ ∨ InB A0_2 k_ ∨ k_ = g1_) w w_) := by
  have H := wp.impl_Warp_pass.math s0 xs1 hp
  have hB := Chg.refl (fun k_ => InB A0_1 k_ ∨ InB A0_2 k_ ∨ k_ = g1_) w
  refine impl_Warp_pass.start ?_
  unfold impl_Warp_pass.vc
  unfold wp.impl_Warp_pass at H
  refine ⟨(fun _ => False), ?_⟩
  refine ⟨_, _, _, ⟨(fun h_ => h_), (O1.at 1 rfl rfl)⟩, ?_⟩
  refine bcase_mk (fun hc78 => ?_) (fun hc78 => ?_)
  · have H := (bcase_iff.1 H).1 hc78
    have O1 := O1.ext (Ext.drew _)
    have O2 := O2.ext (Ext.drew _)
    have O3 := O3.ext (Ext.drew _)
    have hB := hB.then (Ext.drew _)
    obtain rfl := hr.trans H.symm
    exact ⟨A0_1, c0_1, A0_2, c0_2, rfl, O1, (O2.mono (Nat.zero_le _)), (Mov.same _ _), (O3.mono (Nat.zero_le _)), (Mov.same _ _), hB⟩
  have H := (bcase_iff.1 H).2 hc78
  refine ⟨_, _, _, ⟨(fun h_ => h_), (O1.at 1 rfl rfl)⟩, ?_⟩
  refine ⟨_, _, _, ⟨(fun h_ => h_), (O1.at 1 rfl rfl)⟩, ?_⟩
  obtain ⟨⟨h0_25, h1_26⟩, H⟩ := H
  obtain ⟨a23, ha24, hat22⟩ := Row.at O2.row h0_25 h1_26
  refine ⟨h0_25, h1_26, a23, ha24, ?_⟩
  refine ⟨_, ⟨(fun h_ => h_), (hat22 0 _ rfl)⟩, ?_⟩
  obtain ⟨⟨h0_30, h1_31⟩, H⟩ := H
  obtain ⟨a28, ha29, hat27⟩ := Row.at (R1.chgS hB D1) h0_30 h1_31
  refine ⟨h0_30, h1_31, a28, ha29, ?_⟩
  refine ⟨_, ⟨(fun h_ => h_), (hat27 0 _ rfl)⟩, ?_⟩
  refine ⟨_, ⟨(fun h_ => h_), (hat27 1 _ rfl)⟩, ?_⟩
  refine ⟨_, ⟨(fun h_ => h_), (hat27 2 _ rfl)⟩, ?_⟩
  refine ⟨_, ⟨(fun h_ => h_), (hat27 3 _ rfl)⟩, ?_⟩
  have hS21 := Chg.refl (fun _ => False) w
  have O1 := O1.ext (Ext.drew _)
  have O2 := O2.ext (Ext.drew _)
  have O3 := O3.ext (Ext.drew _)
  have hB := hB.then (Ext.drew _)
  have hS21 := hS21.then (Ext.drew _)
  obtain ⟨r32, hr33⟩ : ∃ r_, r_ = M.impl_IsLocal (rd xs1 ((rd s0.Frames (IntKind.wrap .i64 (((s0.Frames.length : Nat) : Int) - 1))).Pc)) := ⟨_, rfl⟩
  have H := H r32 hr33
  refine (impl_IsLocal.con hr33 ).mono ?_
  rintro _ w35 ⟨rfl, e36⟩
  have O1 := O1.ext e36
  have O2 := O2.ext e36
  have O3 := O3.ext e36
  have hB := hB.then e36
  have hS21 := hS21.then e36
  refine ⟨r32, rfl, ?_⟩
  refine ⟨sameBut_chg hS21, ?_⟩
  refine bcase_mk (fun hc77 => ?_) (fun hc77 => ?_)
  · have H := (bcase_iff.1 H).1 hc77
    obtain rfl := hr.trans H.symm
    exact ⟨A0_1, c0_1, A0_2, c0_2, rfl, O1, (O2.mono (Nat.zero_le _)), (Mov.same _ _), (O3.mono (Nat.zero_le _)), (Mov.same _ _), hB⟩
  have H := (bcase_iff.1 H).2 hc77
  refine ⟨_, (O1.at 0 rfl rfl), ?_⟩
  refine ⟨_, _, _, (O1.at 1 rfl rfl), ?_⟩
  refine ⟨_, _, _, (O1.at 2 rfl rfl), ?_⟩
  obtain ⟨hp39, H⟩ := H
  obtain ⟨r37, hr38⟩ : ∃ r_, r_ = M.impl_Warp_splits s0 xs1 := ⟨_, rfl⟩
  have H := H r37 hr38
  refine (impl_Warp_splits.con hp39 hr38 O2.row O2.le O3.row O3.le (R1.chgS hB D1) hc1).mono ?_
  rintro _ w40 ⟨rfl, e41⟩
  have O1 := O1.ext e41
  have O2 := O2.ext e41
  have O3 := O3.ext e41
  have hB := hB.then e41
  refine ⟨r37, rfl, ?_⟩
  refine bcase_mk (fun hc76 => ?_) (fun hc76 => ?_)
  · have H := (bcase_iff.1 H).1 hc76
    obtain ⟨hp44, H⟩ := H
    obtain ⟨r42, hr43⟩ : ∃ r_, r_ = M.impl_Warp_separate s0 xs1 := ⟨_, rfl⟩
    have H := H r42 hr43
    refine (impl_Warp_separate.con hp44 hr43 O1 (O2.mono (Nat.zero_le _)) O3.row O3.le (R1.chgS hB D1) hc1 (fun _ => (fun g h_ => (fun hS_ => hS_.elim (((Own.apart2_type O3 O2 (by decide))).inb g h_) ((box_inb (O3.apart_type O1.b (by decide))) g h_)))) (fun hx_ => (fun g h_ => (fun hS_ => hS_.elim ((fun g h_ hS_ => D1 hx_ g h_ (Or.inl hS_)) g h_) ((fun g h_ hS_ => D1 hx_ g h_ (Or.inr (Or.inr hS_))) g h_))))).mono ?_
    rintro _ w45 ⟨A47, c48, rfl, Q1, Q5, Mv5, hq49, e46⟩
    rw [hq49] at Q1
    have Mw5 := Mov.trans (Mov.same w A0_1) Mv5 hB.size
    have O3 := O3.chgS e46 (fun g h_ => (fun hS_ => hS_.elim (((Own.apart2_type O3 O2 (by decide))).inb g h_) ((box_inb (O3.apart_type O1.b (by decide))) g h_)))
    have hB := hB.chg e46 (fun g => (fun hS_ => hS_.elim ((fun g h_ => (Or.inr (Or.inl h_))) g) ((fun g h_ => Or.inr (Or.inr (Or.inr h_))) g)))
    have O1 := Q1
    have O5 := Q5
    refine ⟨r42.1, rfl, ?_⟩
    refine bcase_mk (fun hc58 => ?_) (fun hc58 => ?_)
    · have H := (bcase_iff.1 H).1 hc58
      obtain rfl := hr.trans H.symm
      exact ⟨A47, c48, A0_2, c0_2, rfl, O1, (O5.mono (Nat.zero_le _)), Mw5, (O3.mono (Nat.zero_le _)), (Mov.same _ _), hB⟩
    have H := (bcase_iff.1 H).2 hc58
    obtain ⟨hp52, H⟩ := H
    obtain ⟨r50, hr51⟩ : ∃ r_, r_ = M.impl_Warp_drop (⟨r42.2.Number, r42.2.Frames, s0.Regs⟩ : D.Warp) ((xs1.length : Nat) : Int) := ⟨_, rfl⟩
    have H := H r50 hr51
    refine (impl_Warp_drop.con hp52 hr51 O1 (O5.mono (Nat.zero_le _)) O3.row O3.le (fun _ => (fun g h_ => (fun hS_ => hS_.elim (((Own.apart2_type O3 O5 (by decide))).inb g h_) ((box_inb (O3.apart_type O1.b (by decide))) g h_))))).mono ?_
    rintro _ w53 ⟨A55, c56, rfl, Q1, Q6, Mv6, hq57, e54⟩
    rw [hq57] at Q1
    have Mw6 := Mov.trans Mw5 Mv6 hB.size
    have O3 := O3.chgS e54 (fun g h_ => (fun hS_ => hS_.elim (((Own.apart2_type O3 O5 (by decide))).inb g h_) ((box_inb (O3.apart_type O1.b (by decide))) g h_)))
    have hB := hB.chg e54 (fun g => (fun hS_ => hS_.elim ((fun g h_ => (mv_or Mw5 h_ (fun h_ => (Or.inl h_)))) g) ((fun g h_ => Or.inr (Or.inr (Or.inr h_))) g)))
    have O1 := Q1
    have O6 := Q6
    refine ⟨rfl, ?_⟩
    obtain rfl := hr.trans H.symm
    exact ⟨A55, c56, A0_2, c0_2, rfl, O1, (O6.mono (Nat.zero_le _)), Mw6, (O3.mono (Nat.zero_le _)), (Mov.same _ _), hB⟩
  have H := (bcase_iff.1 H).2 hc76
  obtain ⟨hp61, H⟩ := H
  obtain ⟨r59, hr60⟩ : ∃ r_, r_ = M.impl_Warp_advance s0 xs1 := ⟨_, rfl⟩
  have H := H r59 hr60
  refine (impl_Warp_advance.con hp61 hr60 O1 (O2.mono (Nat.zero_le _)) (O3.mono (Nat.zero_le _)) (R1.chgS hB D1) hc1 (fun hx_ => (fun g h_ => (fun hS_ => hS_.elim ((fun g h_ hS_ => D1 hx_ g h_ (Or.inl hS_)) g h_) (fun hS_ => hS_.elim ((fun g h_ hS_ => D1 hx_ g h_ (Or.inr (Or.inl hS_))) g h_) ((fun g h_ hS_ => D1 hx_ g h_ (Or.inr (Or.inr hS_))) g h_)))))).mono ?_
  rintro _ w62 ⟨A64, c65, A66, c67, rfl, Q1, Q7, Mv7, Q8, Mv8, e63⟩
  have Mw7 := Mov.trans (Mov.same w A0_1) Mv7 hB.size
  have Mw8 := Mov.trans (Mov.same w A0_2) Mv8 hB.size
  have hB := hB.chg e63 (fun g => (fun hS_ => hS_.elim ((fun g h_ => (Or.inr (Or.inl h_))) g) (fun hS_ => hS_.elim ((fun g h_ => (Or.inr (Or.inr (Or.inl h_)))) g) ((fun g h_ => Or.inr (Or.inr (Or.inr h_))) g))))
  have O1 := Q1
  have O7 := Q7
  have O8 := Q8
  refine ⟨rfl, ?_⟩
  obtain ⟨hp70, H⟩ := H
  obtain ⟨r68, hr69⟩ : ∃ r_, r_ = M.impl_Warp_drop r59 ((xs1.length : Nat) : Int) := ⟨_, rfl⟩
  have H := H r68 hr69
  refine (impl_Warp_drop.con hp70 hr69 O1 (O7.mono (Nat.zero_le _)) O8.row O8.le (fun _ => (fun g h_ => (fun hS_ => hS_.elim (((Own.apart2_type O8 O7 (by decide))).inb g h_) ((box_inb (O8.apart_type O1.b (by decide))) g h_))))).mono ?_
  rintro _ w71 ⟨A73, c74, rfl, Q1, Q9, Mv9, hq75, e72⟩
  rw [hq75] at Q1
  have Mw9 := Mov.trans Mw7 Mv9 hB.size
  have O8 := O8.chgS e72 (fun g h_ => (fun hS_ => hS_.elim (((Own.apart2_type O8 O7 (by decide))).inb g h_) ((box_inb (O8.apart_type O1.b (by decide))) g h_)))
  have hB := hB.chg e72 (fun g => (fun hS_ => hS_.elim ((fun g h_ => (mv_or Mw7 h_ (fun h_ => (Or.inl h_)))) g) ((fun g h_ => Or.inr (Or.inr (Or.inr h_))) g)))
  have O1 := Q1
  have O9 := Q9
  refine ⟨rfl, ?_⟩
  obtain rfl := hr.trans H.symm
  exact ⟨A73, c74, A66, c67, rfl, O1, (O9.mono (Nat.zero_le _)), Mw9, (O8.mono (Nat.zero_le _)), Mw8, hB⟩
def impl_RunWarp.vc (A0 : Option Addr) (n0 : Nat) (c0 : Nat) (x1_0 : Int) (A1_1 : Option Addr) (n1_1 : Nat) (c1_1 : Nat) (A1_2 : Option Addr) (n1_2 : Nat) (c1_2 : Nat) (x2 : Int) (w : World) (K : Value → World → Prop) : Prop :=
  newK w (.cells #[(.int .i64 x1_0), (.slice A1_1 n1_1 c1_1), (.slice A1_2 n1_2 c1_2)] 31) fun g21 w22 => newK w22 (.cells #[(.int .i64 0), (.slice none 0 0), (.slice none 0 0)] 31) fun g23 w24 => ∃ (n25 : Int), w24.cell? ((⟨g21, 0, none⟩ : Addr).add 0) = some (.int .i64 n25) ∧ ∃ (A26 : Option Addr) (n27 : Nat) (c28 : Nat), w24.cell? ((⟨g21, 0, none⟩ : Addr).add 1) = some (.slice A26 n27 c28) ∧ ∃ (A29 : Option Addr) (n30 : Nat) (c31 : Nat), w24.cell? ((⟨g21, 0, none⟩ : Addr).add 2) = some (.slice A29 n30 c31) ∧ Cll Tryz.prog 72 #[(.agg #[(.int .i64 n25), (.slice A26 n27 c28), (.slice A29 n30 c31)])] w24 fun v32 w33 => (∃ (n34 : Int), True ∧ ∃ (A35 : Option Addr) (n36 : Nat) (c37 : Nat), True ∧ ∃ (A38 : Option Addr) (n39 : Nat) (c40 : Nat), True ∧ v32 = (.agg #[(.int .i64 n34), (.slice A35 n36 c37), (.slice A38 n39 c40)]) ∧ newK w33 (.cells #[(.int .i64 0), (.slice none 0 0), (.slice none 0 0)] 31) fun g41 w42 => stCells (⟨g41, 0, none⟩ : Addr) [(.int .i64 n34), (.slice A35 n36 c37), (.slice A38 n39 c40)] 0 w42 fun w43 => Cll Tryz.prog 73 #[(.slice A0 n0 c0)] w43 fun v45 w46 => (∃ (b47 : Bool), v45 = (.bool b47) ∧ bcase (!b47) (∃ (n48 : Int), w46.cell? ((⟨g41, 0, none⟩ : Addr).add 0) = some (.int .i64 n48) ∧ ∃ (A49 : Option Addr) (n50 : Nat) (c51 : Nat), w46.cell? ((⟨g41, 0, none⟩ : Addr).add 1) = some (.slice A49 n50 c51) ∧ ∃ (A52 : Option Addr) (n53 : Nat) (c54 : Nat), w46.cell? ((⟨g41, 0, none⟩ : Addr).add 2) = some (.slice A52 n53 c54) ∧ stCells (⟨g23, 0, none⟩ : Addr) [(.int .i64 n48), (.slice A49 n50 c51), (.slice A52 n53 c54)] 0 w46 fun w55 => ∃ (n56 : Int), w55.cell? ((⟨g23, 0, none⟩ : Addr).add 0) = some (.int .i64 n56) ∧ ∃ (A57 : Option Addr) (n58 : Nat) (c59 : Nat), w55.cell? ((⟨g23, 0, none⟩ : Addr).add 1) = some (.slice A57 n58 c59) ∧ ∃ (A60 : Option Addr) (n61 : Nat) (c62 : Nat), w55.cell? ((⟨g23, 0, none⟩ : Addr).add 2) = some (.slice A60 n61 c62) ∧ K (.tuple #[(.agg #[(.int .i64 n56), (.slice A57 n58 c59), (.slice A60 n61 c62)]), (.int .i64 (-1))]) w55) (∃ (n63 : Int), w46.cell? ((⟨g21, 0, none⟩ : Addr).add 0) = some (.int .i64 n63) ∧ ∃ (A64 : Option Addr) (n65 : Nat) (c66 : Nat), w46.cell? ((⟨g21, 0, none⟩ : Addr).add 1) = some (.slice A64 n65 c66) ∧ ∃ (A67 : Option Addr) (n68 : Nat) (c69 : Nat), w46.cell? ((⟨g21, 0, none⟩ : Addr).add 2) = some (.slice A67 n68 c69) ∧ Cll Tryz.prog 74 #[(.slice A0 n0 c0), (.agg #[(.int .i64 n63), (.slice A64 n65 c66), (.slice A67 n68 c69)])] w46 fun v70 w71 => (∃ (b72 : Bool), v70 = (.bool b72) ∧ bcase (!b72) (∃ (n73 : Int), w71.cell? ((⟨g41, 0, none⟩ : Addr).add 0) = some (.int .i64 n73) ∧ ∃ (A74 : Option Addr) (n75 : Nat) (c76 : Nat), w71.cell? ((⟨g41, 0, none⟩ : Addr).add 1) = some (.slice A74 n75 c76) ∧ ∃ (A77 : Option Addr) (n78 : Nat) (c79 : Nat), w71.cell? ((⟨g41, 0, none⟩ : Addr).add 2) = some (.slice A77 n78 c79) ∧ stCells (⟨g23, 0, none⟩ : Addr) [(.int .i64 n73), (.slice A74 n75 c76), (.slice A77 n78 c79)] 0 w71 fun w80 => ∃ (n81 : Int), w80.cell? ((⟨g23, 0, none⟩ : Addr).add 0) = some (.int .i64 n81) ∧ ∃ (A82 : Option Addr) (n83 : Nat) (c84 : Nat), w80.cell? ((⟨g23, 0, none⟩ : Addr).add 1) = some (.slice A82 n83 c84) ∧ ∃ (A85 : Option Addr) (n86 : Nat) (c87 : Nat), w80.cell? ((⟨g23, 0, none⟩ : Addr).add 2) = some (.slice A85 n86 c87) ∧ K (.tuple #[(.agg #[(.int .i64 n81), (.slice A82 n83 c84), (.slice A85 n86 c87)]), (.int .i64 (-1))]) w80) (Cll Tryz.prog 75 #[(.int .i64 x2), (.int .i64 0), (.int .i64 8000)] w71 fun v88 w89 => (∃ (b90 : Bool), v88 = (.bool b90) ∧ bcase (!b90) (∃ (n91 : Int), w89.cell? ((⟨g41, 0, none⟩ : Addr).add 0) = some (.int .i64 n91) ∧ ∃ (A92 : Option Addr) (n93 : Nat) (c94 : Nat), w89.cell? ((⟨g41, 0, none⟩ : Addr).add 1) = some (.slice A92 n93 c94) ∧ ∃ (A95 : Option Addr) (n96 : Nat) (c97 : Nat), w89.cell? ((⟨g41, 0, none⟩ : Addr).add 2) = some (.slice A95 n96 c97) ∧ stCells (⟨g23, 0, none⟩ : Addr) [(.int .i64 n91), (.slice A92 n93 c94), (.slice A95 n96 c97)] 0 w89 fun w98 => ∃ (n99 : Int), w98.cell? ((⟨g23, 0, none⟩ : Addr).add 0) = some (.int .i64 n99) ∧ ∃ (A100 : Option Addr) (n101 : Nat) (c102 : Nat), w98.cell? ((⟨g23, 0, none⟩ : Addr).add 1) = some (.slice A100 n101 c102) ∧ ∃ (A103 : Option Addr) (n104 : Nat) (c105 : Nat), w98.cell? ((⟨g23, 0, none⟩ : Addr).add 2) = some (.slice A103 n104 c105) ∧ K (.tuple #[(.agg #[(.int .i64 n99), (.slice A100 n101 c102), (.slice A103 n104 c105)]), (.int .i64 (-1))]) w98) (LoopT (σ := Int × Unit) (fun z106 w107 next108 => bcase (decide (z106.1 < x2)) (Cll Tryz.prog 76 #[(.pointer (some (⟨g41, 0, none⟩ : Addr))), (.slice A0 n0 c0)] w107 fun v109 w110 => (∃ (b111 : Bool), v109 = (.bool b111) ∧ bcase b111 (next108 ((IntKind.wrap .i64 (z106.1 + 1)), ()) w110) (∃ (n112 : Int), w110.cell? ((⟨g41, 0, none⟩ : Addr).add 0) = some (.int .i64 n112) ∧ ∃ (A113 : Option Addr) (n114 : Nat) (c115 : Nat), w110.cell? ((⟨g41, 0, none⟩ : Addr).add 1) = some (.slice A113 n114 c115) ∧ ∃ (A116 : Option Addr) (n117 : Nat) (c118 : Nat), w110.cell? ((⟨g41, 0, none⟩ : Addr).add 2) = some (.slice A116 n117 c118) ∧ stCells (⟨g23, 0, none⟩ : Addr) [(.int .i64 n112), (.slice A113 n114 c115), (.slice A116 n117 c118)] 0 w110 fun w119 => ∃ (n120 : Int), w119.cell? ((⟨g23, 0, none⟩ : Addr).add 0) = some (.int .i64 n120) ∧ ∃ (A121 : Option Addr) (n122 : Nat) (c123 : Nat), w119.cell? ((⟨g23, 0, none⟩ : Addr).add 1) = some (.slice A121 n122 c123) ∧ ∃ (A124 : Option Addr) (n125 : Nat) (c126 : Nat), w119.cell? ((⟨g23, 0, none⟩ : Addr).add 2) = some (.slice A124 n125 c126) ∧ K (.tuple #[(.agg #[(.int .i64 n120), (.slice A121 n122 c123), (.slice A124 n125 c126)]), (.int .i64 z106.1)]) w119))) (∃ (n127 : Int), w107.cell? ((⟨g41, 0, none⟩ : Addr).add 0) = some (.int .i64 n127) ∧ ∃ (A128 : Option Addr) (n129 : Nat) (c130 : Nat), w107.cell? ((⟨g41, 0, none⟩ : Addr).add 1) = some (.slice A128 n129 c130) ∧ ∃ (A131 : Option Addr) (n132 : Nat) (c133 : Nat), w107.cell? ((⟨g41, 0, none⟩ : Addr).add 2) = some (.slice A131 n132 c133) ∧ stCells (⟨g23, 0, none⟩ : Addr) [(.int .i64 n127), (.slice A128 n129 c130), (.slice A131 n132 c133)] 0 w107 fun w134 => ∃ (n135 : Int), w134.cell? ((⟨g23, 0, none⟩ : Addr).add 0) = some (.int .i64 n135) ∧ ∃ (A136 : Option Addr) (n137 : Nat) (c138 : Nat), w134.cell? ((⟨g23, 0, none⟩ : Addr).add 1) = some (.slice A136 n137 c138) ∧ ∃ (A139 : Option Addr) (n140 : Nat) (c141 : Nat), w134.cell? ((⟨g23, 0, none⟩ : Addr).add 2) = some (.slice A139 n140 c141) ∧ K (.tuple #[(.agg #[(.int .i64 n135), (.slice A136 n137 c138), (.slice A139 n140 c141)]), (.int .i64 z106.1)]) w134)) (0, ()) w89)))))))

def impl_RunWarp.ann : Ann := (.seq .l (.seq .l (.seq (.seq .l (.two (.seq .l .l) .l)) (.seq .l (.seq (.one (.loop [(9, .int .i64)] (.seq (.seq .l (.two .l .l)) (.one .l)))) (.seq .l .l))))))

theorem impl_RunWarp.start {A0 : Option Addr} {n0 : Nat} {c0 : Nat} {x1_0 : Int} {A1_1 : Option Addr} {n1_1 : Nat} {c1_1 : Nat} {A1_2 : Option Addr} {n1_2 : Nat} {c1_2 : Nat} {x2 : Int} {w : World} {K : Value → World → Prop} (h : impl_RunWarp.vc A0 n0 c0 x1_0 A1_1 n1_1 c1_1 A1_2 n1_2 c1_2 x2 w K) : Cll Tryz.prog 20 #[(.slice A0 n0 c0), (.agg #[(.int .i64 x1_0), (.slice A1_1 n1_1 c1_1), (.slice A1_2 n1_2 c1_2)]), (.int .i64 x2)] w K :=
  vcF_sound mixed (fn := Tryz.f20) (by kernel_rfl) (by kernel_rfl) (an := impl_RunWarp.ann) (args := [(.slice A0 n0 c0), (.agg #[(.int .i64 x1_0), (.slice A1_1 n1_1 c1_1), (.slice A1_2 n1_2 c1_2)]), (.int .i64 x2)]) (Eq.mpr (by kernel_rfl) h)

theorem impl_RunWarp.con {xs0 : List D.Ins} {A0 : Option Addr} {c0 : Nat} {s1 : D.Warp} {A1_1 : Option Addr} {c1_1 : Nat} {A1_2 : Option Addr} {c1_2 : Nat} {x2 : Int} {r : D.Warp × Int} {w : World} (hp : M.impl_RunWarp_pre xs0 s1 x2) (hr : r = M.impl_RunWarp xs0 s1 x2) (R0 : Row el89 w A0 xs0) (hc0 : xs0.length ≤ c0) (R1_1 : Row el130 w A1_1 s1.Frames) (hc1_1 : s1.Frames.length ≤ c1_1) (R1_2 : Row el3 w A1_2 s1.Regs) (hc1_2 : s1.Regs.length ≤ c1_2) :
    Cll Tryz.prog 20 #[(.slice A0 xs0.length c0), (.agg #[(.int .i64 s1.Number), (.slice A1_1 s1.Frames.length c1_1), (.slice A1_2 s1.Regs.length c1_2)]), (.int .i64 x2)] w (fun v_ w_ => ∃ (A0_ : Option Addr) (c0_ : Nat) (A1_ : Option Addr) (c1_ : Nat), v_ = (.tuple #[(.agg #[(.int .i64 r.1.Number), (.slice A0_ r.1.Frames.length c0_), (.slice A1_ r.1.Regs.length c1_)]), (.int .i64 r.2)]) ∧ Own el130 w_ w.heap.size A0_ c0_ r.1.Frames ∧ Own el3 w_ w.heap.size A1_ c1_ r.1.Regs ∧ Ext w w_) := by
  have H := wp.impl_RunWarp.math xs0 s1 x2 hp
  have hB := Ext.refl w
  refine impl_RunWarp.start ?_
  unfold impl_RunWarp.vc
  unfold wp.impl_RunWarp at H
  refine newBlk (fun g4_ w21 L4 P4 e22 => ?_)
  have O4 := P4
  have L4 := Nat.le_trans hB.size L4
  have hB := ethen hB e22
  refine newBlk (fun g5_ w23 L5 P5 e24 => ?_)
  have N4_5 := O4.ne L5
  have O4 := O4.ext e24
  have O5 := P5
  have L5 := Nat.le_trans hB.size L5
  have hB := ethen hB e24
  refine ⟨_, (O4.at 0 rfl rfl), ?_⟩
  refine ⟨_, _, _, (O4.at 1 rfl rfl), ?_⟩
  refine ⟨_, _, _, (O4.at 2 rfl rfl), ?_⟩
  obtain ⟨hp27, H⟩ := H
  obtain ⟨r25, hr26⟩ : ∃ r_, r_ = M.impl_copyWarp s1 := ⟨_, rfl⟩
  have H := H r25 hr26
  refine (impl_copyWarp.con hp27 hr26 (R1_1.ext hB) hc1_1 (R1_2.ext hB) hc1_2).mono ?_
  rintro _ w28 ⟨A30, c31, A32, c33, rfl, P6, P7, e29⟩
  have N6_4 := P6.apart_old O4.lt
  have N6_5 := P6.apart_old O5.lt
  have N7_4 := P7.apart_old O4.lt
  have N7_5 := P7.apart_old O5.lt
  have O4 := O4.ext e29
  have O5 := O5.ext e29
  have O6 := P6.mono hB.size
  have O7 := P7.mono hB.size
  have hB := ethen hB e29
  refine ⟨r25.Number, trivial, ?_⟩
  refine ⟨A30, r25.Frames.length, c31, trivial, ?_⟩
  refine ⟨A32, r25.Regs.length, c33, trivial, ?_⟩
  refine ⟨rfl, ?_⟩
  refine newBlk (fun g8_ w34 L8 P8 e35 => ?_)
  have N4_8 := O4.ne L8
  have N5_8 := O5.ne L8
  have N6_8 := O6.apart_new L8
  have N7_8 := O7.apart_new L8
  have O4 := O4.ext e35
  have O5 := O5.ext e35
  have O6 := O6.ext e35
  have O7 := O7.ext e35
  have O8 := P8
  have L8 := Nat.le_trans hB.size L8
  have hB := ethen hB e35
  refine stBlk O8 (o := 0) (cs' := #[(.int .i64 r25.Number), (.slice A30 r25.Frames.length c31), (.slice A32 r25.Regs.length c33)]) rfl rfl (Nat.le_of_ble_eq_true rfl) rfl (fun w36 P8 e37 => ?_)
  have O4_ := O4.chg e37 N4_8
  have O5_ := O5.chg e37 N5_8
  have O6_ := O6.chg e37 N6_8
  have O7_ := O7.chg e37 N7_8
  have O4 := O4_
  have O5 := O5_
  have O6 := O6_
  have O7 := O7_
  have hB := echg hB e37 L8
  have O8 := P8
  obtain ⟨hp40, H⟩ := H
  obtain ⟨r38, hr39⟩ : ∃ r_, r_ = M.impl_IsQuiet xs0 := ⟨_, rfl⟩
  have H := H r38 hr39
  refine (impl_IsQuiet.con hp40 hr39 (R0.ext hB) hc0).mono ?_
  rintro _ w41 ⟨rfl, e42⟩
  have O4 := O4.ext e42
  have O5 := O5.ext e42
  have O6 := O6.ext e42
  have O7 := O7.ext e42
  have O8 := O8.ext e42
  have hB := ethen hB e42
  refine ⟨r38, rfl, ?_⟩
  refine bcase_mk (fun hc111 => ?_) (fun hc111 => ?_)
  · have H := (bcase_iff.1 H).1 hc111
    refine ⟨_, (O8.at 0 rfl rfl), ?_⟩
    refine ⟨_, _, _, (O8.at 1 rfl rfl), ?_⟩
    refine ⟨_, _, _, (O8.at 2 rfl rfl), ?_⟩
    refine stBlk O5 (o := 0) (cs' := #[(.int .i64 r25.Number), (.slice A30 r25.Frames.length c31), (.slice A32 r25.Regs.length c33)]) rfl rfl (Nat.le_of_ble_eq_true rfl) rfl (fun w43 P5 e44 => ?_)
    have O6_ := O6.chg e44 N6_5
    have O7_ := O7.chg e44 N7_5
    have O8_ := O8.chg e44 (N5_8).symm
    have O6 := O6_
    have O7 := O7_
    have O8 := O8_
    have hB := echg hB e44 L5
    have O5 := P5
    refine ⟨_, (O5.at 0 rfl rfl), ?_⟩
    refine ⟨_, _, _, (O5.at 1 rfl rfl), ?_⟩
    refine ⟨_, _, _, (O5.at 2 rfl rfl), ?_⟩
    obtain rfl := hr.trans H.symm
    exact ⟨A30, c31, A32, c33, rfl, O6, O7, hB⟩
  have H := (bcase_iff.1 H).2 hc111
  refine ⟨_, (O4.at 0 rfl rfl), ?_⟩
  refine ⟨_, _, _, (O4.at 1 rfl rfl), ?_⟩
  refine ⟨_, _, _, (O4.at 2 rfl rfl), ?_⟩
  obtain ⟨hp47, H⟩ := H
  obtain ⟨r45, hr46⟩ : ∃ r_, r_ = M.impl_WarpOk xs0 s1 := ⟨_, rfl⟩
  have H := H r45 hr46
  refine (impl_WarpOk.con hp47 hr46 (R0.ext hB) hc0 (R1_1.ext hB) hc1_1 (R1_2.ext hB) hc1_2).mono ?_
  rintro _ w48 ⟨rfl, e49⟩
  have O4 := O4.ext e49
  have O5 := O5.ext e49
  have O6 := O6.ext e49
  have O7 := O7.ext e49
  have O8 := O8.ext e49
  have hB := ethen hB e49
  refine ⟨r45, rfl, ?_⟩
  refine bcase_mk (fun hc110 => ?_) (fun hc110 => ?_)
  · have H := (bcase_iff.1 H).1 hc110
    refine ⟨_, (O8.at 0 rfl rfl), ?_⟩
    refine ⟨_, _, _, (O8.at 1 rfl rfl), ?_⟩
    refine ⟨_, _, _, (O8.at 2 rfl rfl), ?_⟩
    refine stBlk O5 (o := 0) (cs' := #[(.int .i64 r25.Number), (.slice A30 r25.Frames.length c31), (.slice A32 r25.Regs.length c33)]) rfl rfl (Nat.le_of_ble_eq_true rfl) rfl (fun w50 P5 e51 => ?_)
    have O6_ := O6.chg e51 N6_5
    have O7_ := O7.chg e51 N7_5
    have O8_ := O8.chg e51 (N5_8).symm
    have O6 := O6_
    have O7 := O7_
    have O8 := O8_
    have hB := echg hB e51 L5
    have O5 := P5
    refine ⟨_, (O5.at 0 rfl rfl), ?_⟩
    refine ⟨_, _, _, (O5.at 1 rfl rfl), ?_⟩
    refine ⟨_, _, _, (O5.at 2 rfl rfl), ?_⟩
    obtain rfl := hr.trans H.symm
    exact ⟨A30, c31, A32, c33, rfl, O6, O7, hB⟩
  have H := (bcase_iff.1 H).2 hc110
  obtain ⟨r52, hr53⟩ : ∃ r_, r_ = M.impl_within x2 0 8000 := ⟨_, rfl⟩
  have H := H r52 hr53
  refine (impl_within.con hr53 ).mono ?_
  rintro _ w55 ⟨rfl, e56⟩
  have O4 := O4.ext e56
  have O5 := O5.ext e56
  have O6 := O6.ext e56
  have O7 := O7.ext e56
  have O8 := O8.ext e56
  have hB := ethen hB e56
  refine ⟨r52, rfl, ?_⟩
  refine bcase_mk (fun hc109 => ?_) (fun hc109 => ?_)
  · have H := (bcase_iff.1 H).1 hc109
    refine ⟨_, (O8.at 0 rfl rfl), ?_⟩
    refine ⟨_, _, _, (O8.at 1 rfl rfl), ?_⟩
    refine ⟨_, _, _, (O8.at 2 rfl rfl), ?_⟩
    refine stBlk O5 (o := 0) (cs' := #[(.int .i64 r25.Number), (.slice A30 r25.Frames.length c31), (.slice A32 r25.Regs.length c33)]) rfl rfl (Nat.le_of_ble_eq_true rfl) rfl (fun w57 P5 e58 => ?_)
    have O6_ := O6.chg e58 N6_5
    have O7_ := O7.chg e58 N7_5
    have O8_ := O8.chg e58 (N5_8).symm
    have O6 := O6_
    have O7 := O7_
    have O8 := O8_
    have hB := echg hB e58 L5
    have O5 := P5
    refine ⟨_, (O5.at 0 rfl rfl), ?_⟩
    refine ⟨_, _, _, (O5.at 1 rfl rfl), ?_⟩
    refine ⟨_, _, _, (O5.at 2 rfl rfl), ?_⟩
    obtain rfl := hr.trans H.symm
    exact ⟨A30, c31, A32, c33, rfl, O6, O7, hB⟩
  have H := (bcase_iff.1 H).2 hc109
  obtain ⟨J83, ⟨m107, hJ106⟩, hS84⟩ := H
  refine ⟨fun m_ z_ w_ => ∃ (i74 : Int) (i75 : Int) (xs76 : List D.Frame) (xs79 : List Int) (A77 : Option Addr) (c78 : Nat) (A80 : Option Addr) (c81 : Nat), z_ = (i74, ()) ∧ J83 m_ (i74, i75, xs76, xs79, ()) ∧ Ext w w_ ∧ Blk w_ g8_ 31 #[(.int .i64 i75), (.slice A77 xs76.length c78), (.slice A80 xs79.length c81)] ∧ Own el130 w_ w.heap.size A77 c78 xs76 ∧ Own el3 w_ w.heap.size A80 c81 xs79 ∧ Blk w_ g5_ 31 #[(.int .i64 0), (.slice none 0 0), (.slice none 0 0)], ⟨m107, 0, r25.Number, r25.Frames, r25.Regs, A30, c31, A32, c33, rfl, hJ106, hB, O8, O6, O7, O5⟩, ?_⟩
  rintro m82 _ w86 ⟨i74, i75, xs76, xs79, A77, c78, A80, c81, rfl, hJ108, hB, O8, O11, O12, O5⟩
  have H := hS84 m82 _ hJ108
  clear hS84 hJ108
  try dsimp only at H ⊢
  refine bcase_mk (fun hc104 => ?_) (fun hc104 => ?_)
  · have H := (bcase_iff.1 H).1 hc104
    obtain ⟨hp89, H⟩ := H
    obtain ⟨r87, hr88⟩ : ∃ r_, r_ = M.impl_Warp_pass (⟨i75, xs76, xs79⟩ : D.Warp) xs0 := ⟨_, rfl⟩
    have H := H r87 hr88
    refine (impl_Warp_pass.con hp89 hr88 O8.plc (O11.mono (Nat.zero_le _)) (O12.mono (Nat.zero_le _)) (R0.ext hB) hc0 (fun hx_ => (fun g h_ => (fun hS_ => hS_.elim ((fun g h_ hS_ => Nat.not_le.2 (R0.old hx_ g h_) (O11.low g hS_)) g h_) (fun hS_ => hS_.elim ((fun g h_ hS_ => Nat.not_le.2 (R0.old hx_ g h_) (O12.low g hS_)) g h_) ((fun g h_ hS_ => Nat.not_le.2 (R0.old hx_ g h_) (box_low L8 _ hS_)) g h_)))))).mono ?_
    rintro _ w90 ⟨A92, c93, A94, c95, rfl, Q8, Q13, Mv13, Q14, Mv14, e91⟩
    have Q8 := Q8.toBlk rfl
    have Lw13 := Mv13.low O11.low hB.size
    have Lw14 := Mv14.low O12.low hB.size
    have O5 := O5.chgS e91 (fun hS_ => hS_.elim ((O11.apart_type O5 (by decide))).inb (fun hS_ => hS_.elim ((O12.apart_type O5 (by decide))).inb (N5_8)))
    have hB := Chg.ext hB e91 (fun g => (fun hS_ => hS_.elim (O11.low g) (fun hS_ => hS_.elim (O12.low g) ((box_low L8) g))))
    have O8 := Q8
    have O13 := Q13.lift Lw13
    have O14 := Q14.lift Lw14
    refine ⟨r87.1, rfl, ?_⟩
    refine bcase_mk (fun hc101 => ?_) (fun hc101 => ?_)
    · have H := (bcase_iff.1 H).1 hc101
      obtain ⟨m96, hm97, hJ98⟩ := H
      exact ⟨m96, hm97, (IntKind.wrap .i64 (i74 + 1)), r87.2.Number, r87.2.Frames, r87.2.Regs, A92, c93, A94, c95, rfl, hJ98, hB, O8, O13, O14, O5⟩
    have H := (bcase_iff.1 H).2 hc101
    refine ⟨_, (O8.at 0 rfl rfl), ?_⟩
    refine ⟨_, _, _, (O8.at 1 rfl rfl), ?_⟩
    refine ⟨_, _, _, (O8.at 2 rfl rfl), ?_⟩
    refine stBlk O5 (o := 0) (cs' := #[(.int .i64 r87.2.Number), (.slice A92 r87.2.Frames.length c93), (.slice A94 r87.2.Regs.length c95)]) rfl rfl (Nat.le_of_ble_eq_true rfl) rfl (fun w99 P5 e100 => ?_)
    have O8_ := O8.chg e100 (N5_8).symm
    have O13_ := O13.chg e100 (O13.apart_type O5 (by decide))
    have O14_ := O14.chg e100 (O14.apart_type O5 (by decide))
    have O8 := O8_
    have O13 := O13_
    have O14 := O14_
    have hB := echg hB e100 L5
    have O5 := P5
    refine ⟨_, (O5.at 0 rfl rfl), ?_⟩
    refine ⟨_, _, _, (O5.at 1 rfl rfl), ?_⟩
    refine ⟨_, _, _, (O5.at 2 rfl rfl), ?_⟩
    obtain rfl := hr.trans H.symm
    exact ⟨A92, c93, A94, c95, rfl, O13, O14, hB⟩
  have H := (bcase_iff.1 H).2 hc104
  refine ⟨_, (O8.at 0 rfl rfl), ?_⟩
  refine ⟨_, _, _, (O8.at 1 rfl rfl), ?_⟩
  refine ⟨_, _, _, (O8.at 2 rfl rfl), ?_⟩
  refine stBlk O5 (o := 0) (cs' := #[(.int .i64 i75), (.slice A77 xs76.length c78), (.slice A80 xs79.length c81)]) rfl rfl (Nat.le_of_ble_eq_true rfl) rfl (fun w102 P5 e103 => ?_)
  have O8_ := O8.chg e103 (N5_8).symm
  have O11_ := O11.chg e103 (O11.apart_type O5 (by decide))
  have O12_ := O12.chg e103 (O12.apart_type O5 (by decide))
  have O8 := O8_
  have O11 := O11_
  have O12 := O12_
  have hB := echg hB e103 L5
  have O5 := P5
  refine ⟨_, (O5.at 0 rfl rfl), ?_⟩
  refine ⟨_, _, _, (O5.at 1 rfl rfl), ?_⟩
  refine ⟨_, _, _, (O5.at 2 rfl rfl), ?_⟩
  obtain rfl := hr.trans H.symm
  exact ⟨A77, c78, A80, c81, rfl, O11, O12, hB⟩
def impl_WarpResult.vc (A0 : Option Addr) (n0 : Nat) (c0 : Nat) (x1 : Int) (w : World) (K : Value → World → Prop) : Prop :=
  newK w (.cells #[(.int .i64 0), (.slice none 0 0), (.slice none 0 0)] 31) fun g21 w22 => Cll Tryz.prog 73 #[(.slice A0 n0 c0)] w22 fun v24 w25 => (∃ (b26 : Bool), v24 = (.bool b26) ∧ bcase (!b26) (stCells (⟨g21, 0, none⟩ : Addr) [(.int .i64 0), (.slice none 0 0), (.slice none 0 0)] 0 w25 fun w27 => ∃ (n28 : Int), w27.cell? ((⟨g21, 0, none⟩ : Addr).add 0) = some (.int .i64 n28) ∧ ∃ (A29 : Option Addr) (n30 : Nat) (c31 : Nat), w27.cell? ((⟨g21, 0, none⟩ : Addr).add 1) = some (.slice A29 n30 c31) ∧ ∃ (A32 : Option Addr) (n33 : Nat) (c34 : Nat), w27.cell? ((⟨g21, 0, none⟩ : Addr).add 2) = some (.slice A32 n33 c34) ∧ K (.tuple #[(.agg #[(.int .i64 n28), (.slice A29 n30 c31), (.slice A32 n33 c34)]), (.int .i64 0), (.bool false)]) w27) (Cll Tryz.prog 82 #[(.int .i64 x1)] w25 fun v35 w36 => (∃ (b37 : Bool), v35 = (.bool b37) ∧ bcase (!b37) (stCells (⟨g21, 0, none⟩ : Addr) [(.int .i64 0), (.slice none 0 0), (.slice none 0 0)] 0 w36 fun w38 => ∃ (n39 : Int), w38.cell? ((⟨g21, 0, none⟩ : Addr).add 0) = some (.int .i64 n39) ∧ ∃ (A40 : Option Addr) (n41 : Nat) (c42 : Nat), w38.cell? ((⟨g21, 0, none⟩ : Addr).add 1) = some (.slice A40 n41 c42) ∧ ∃ (A43 : Option Addr) (n44 : Nat) (c45 : Nat), w38.cell? ((⟨g21, 0, none⟩ : Addr).add 2) = some (.slice A43 n44 c45) ∧ K (.tuple #[(.agg #[(.int .i64 n39), (.slice A40 n41 c42), (.slice A43 n44 c45)]), (.int .i64 0), (.bool false)]) w38) (Cll Tryz.prog 83 #[(.slice A0 n0 c0), (.int .i64 x1)] w36 fun v46 w47 => (∃ (n48 : Int), True ∧ ∃ (A49 : Option Addr) (n50 : Nat) (c51 : Nat), True ∧ ∃ (A52 : Option Addr) (n53 : Nat) (c54 : Nat), True ∧ v46 = (.agg #[(.int .i64 n48), (.slice A49 n50 c51), (.slice A52 n53 c54)]) ∧ Cll Tryz.prog 20 #[(.slice A0 n0 c0), (.agg #[(.int .i64 n48), (.slice A49 n50 c51), (.slice A52 n53 c54)]), (.int .i64 8000)] w47 fun v55 w56 => (∃ u57 : Value, (∃ (n58 : Int), True ∧ ∃ (A59 : Option Addr) (n60 : Nat) (c61 : Nat), True ∧ ∃ (A62 : Option Addr) (n63 : Nat) (c64 : Nat), True ∧ u57 = (.agg #[(.int .i64 n58), (.slice A59 n60 c61), (.slice A62 n63 c64)]) ∧ ∃ u65 : Value, (∃ (n66 : Int), u65 = (.int .i64 n66) ∧ v55 = (.tuple #[(.agg #[(.int .i64 n58), (.slice A59 n60 c61), (.slice A62 n63 c64)]), (.int .i64 n66)]) ∧ newK w56 (.cells #[(.int .i64 0), (.slice none 0 0), (.slice none 0 0)] 31) fun g67 w68 => stCells (⟨g67, 0, none⟩ : Addr) [(.int .i64 n58), (.slice A59 n60 c61), (.slice A62 n63 c64)] 0 w68 fun w69 => ∃ (A70 : Option Addr) (n71 : Nat) (c72 : Nat), w69.cell? (((⟨g67, 0, none⟩ : Addr).add 1).add 0) = some (.slice A70 n71 c72) ∧ bcase (decide (((n71 : Nat) : Int) > 0)) (stCells (⟨g21, 0, none⟩ : Addr) [(.int .i64 0), (.slice none 0 0), (.slice none 0 0)] 0 w69 fun w73 => ∃ (n74 : Int), w73.cell? ((⟨g21, 0, none⟩ : Addr).add 0) = some (.int .i64 n74) ∧ ∃ (A75 : Option Addr) (n76 : Nat) (c77 : Nat), w73.cell? ((⟨g21, 0, none⟩ : Addr).add 1) = some (.slice A75 n76 c77) ∧ ∃ (A78 : Option Addr) (n79 : Nat) (c80 : Nat), w73.cell? ((⟨g21, 0, none⟩ : Addr).add 2) = some (.slice A78 n79 c80) ∧ K (.tuple #[(.agg #[(.int .i64 n74), (.slice A75 n76 c77), (.slice A78 n79 c80)]), (.int .i64 0), (.bool false)]) w73) (∃ (n81 : Int), w69.cell? ((⟨g67, 0, none⟩ : Addr).add 0) = some (.int .i64 n81) ∧ ∃ (A82 : Option Addr) (n83 : Nat) (c84 : Nat), w69.cell? ((⟨g67, 0, none⟩ : Addr).add 1) = some (.slice A82 n83 c84) ∧ ∃ (A85 : Option Addr) (n86 : Nat) (c87 : Nat), w69.cell? ((⟨g67, 0, none⟩ : Addr).add 2) = some (.slice A85 n86 c87) ∧ stCells (⟨g21, 0, none⟩ : Addr) [(.int .i64 n81), (.slice A82 n83 c84), (.slice A85 n86 c87)] 0 w69 fun w88 => ∃ (n89 : Int), w88.cell? ((⟨g21, 0, none⟩ : Addr).add 0) = some (.int .i64 n89) ∧ ∃ (A90 : Option Addr) (n91 : Nat) (c92 : Nat), w88.cell? ((⟨g21, 0, none⟩ : Addr).add 1) = some (.slice A90 n91 c92) ∧ ∃ (A93 : Option Addr) (n94 : Nat) (c95 : Nat), w88.cell? ((⟨g21, 0, none⟩ : Addr).add 2) = some (.slice A93 n94 c95) ∧ K (.tuple #[(.agg #[(.int .i64 n89), (.slice A90 n91 c92), (.slice A93 n94 c95)]), (.int .i64 n66), (.bool true)]) w88)))))))))

def impl_WarpResult.ann : Ann := (.seq .l (.seq (.seq .l (.two (.seq .l .l) .l)) (.seq .l (.seq (.seq .l (.two (.seq .l .l) .l)) (.seq .l .l)))))

theorem impl_WarpResult.start {A0 : Option Addr} {n0 : Nat} {c0 : Nat} {x1 : Int} {w : World} {K : Value → World → Prop} (h : impl_WarpResult.vc A0 n0 c0 x1 w K) : Cll Tryz.prog 27 #[(.slice A0 n0 c0), (.int .i64 x1)] w K :=
  vcF_sound mixed (fn := Tryz.f27) (by kernel_rfl) (by kernel_rfl) (an := impl_WarpResult.ann) (args := [(.slice A0 n0 c0), (.int .i64 x1)]) (Eq.mpr (by kernel_rfl) h)

theorem impl_WarpResult.con {xs0 : List D.Ins} {A0 : Option Addr} {c0 : Nat} {x1 : Int} {r : D.Warp × Int × Bool} {w : World} (hp : M.impl_WarpResult_pre xs0 x1) (hr : r = M.impl_WarpResult xs0 x1) (R0 : Row el89 w A0 xs0) (hc0 : xs0.length ≤ c0) :
    Cll Tryz.prog 27 #[(.slice A0 xs0.length c0), (.int .i64 x1)] w (fun v_ w_ => ∃ (A0_ : Option Addr) (c0_ : Nat) (A1_ : Option Addr) (c1_ : Nat), v_ = (.tuple #[(.agg #[(.int .i64 r.1.Number), (.slice A0_ r.1.Frames.length c0_), (.slice A1_ r.1.Regs.length c1_)]), (.int .i64 r.2.1), (.bool r.2.2)]) ∧ Own el130 w_ w.heap.size A0_ c0_ r.1.Frames ∧ Own el3 w_ w.heap.size A1_ c1_ r.1.Regs ∧ Ext w w_) := by
  have H := wp.impl_WarpResult.math xs0 x1 hp
  have hB := Ext.refl w
  refine impl_WarpResult.start ?_
  unfold impl_WarpResult.vc
  unfold wp.impl_WarpResult at H
  refine newBlk (fun g2_ w21 L2 P2 e22 => ?_)
  have O2 := P2
  have L2 := Nat.le_trans hB.size L2
  have hB := ethen hB e22
  obtain ⟨hp25, H⟩ := H
  obtain ⟨r23, hr24⟩ : ∃ r_, r_ = M.impl_IsQuiet xs0 := ⟨_, rfl⟩
  have H := H r23 hr24
  refine (impl_IsQuiet.con hp25 hr24 (R0.ext hB) hc0).mono ?_
  rintro _ w26 ⟨rfl, e27⟩
  have O2 := O2.ext e27
  have hB := ethen hB e27
  refine ⟨r23, rfl, ?_⟩
  refine bcase_mk (fun hc65 => ?_) (fun hc65 => ?_)
  · have H := (bcase_iff.1 H).1 hc65
    refine stBlk O2 (o := 0) (cs' := #[(.int .i64 0), (.slice none 0 0), (.slice none 0 0)]) rfl rfl (Nat.le_of_ble_eq_true rfl) rfl (fun w28 P2 e29 => ?_)
    have hB := echg hB e29 L2
    have O2 := P2
    refine ⟨_, (O2.at 0 rfl rfl), ?_⟩
    refine ⟨_, _, _, (O2.at 1 rfl rfl), ?_⟩
    refine ⟨_, _, _, (O2.at 2 rfl rfl), ?_⟩
    obtain rfl := hr.trans H.symm
    exact ⟨none, 0, none, 0, rfl, Own.nil, Own.nil, hB⟩
  have H := (bcase_iff.1 H).2 hc65
  obtain ⟨r30, hr31⟩ : ∃ r_, r_ = M.impl_isWarpNumber x1 := ⟨_, rfl⟩
  have H := H r30 hr31
  refine (impl_isWarpNumber.con hr31 ).mono ?_
  rintro _ w33 ⟨rfl, e34⟩
  have O2 := O2.ext e34
  have hB := ethen hB e34
  refine ⟨r30, rfl, ?_⟩
  refine bcase_mk (fun hc64 => ?_) (fun hc64 => ?_)
  · have H := (bcase_iff.1 H).1 hc64
    refine stBlk O2 (o := 0) (cs' := #[(.int .i64 0), (.slice none 0 0), (.slice none 0 0)]) rfl rfl (Nat.le_of_ble_eq_true rfl) rfl (fun w35 P2 e36 => ?_)
    have hB := echg hB e36 L2
    have O2 := P2
    refine ⟨_, (O2.at 0 rfl rfl), ?_⟩
    refine ⟨_, _, _, (O2.at 1 rfl rfl), ?_⟩
    refine ⟨_, _, _, (O2.at 2 rfl rfl), ?_⟩
    obtain rfl := hr.trans H.symm
    exact ⟨none, 0, none, 0, rfl, Own.nil, Own.nil, hB⟩
  have H := (bcase_iff.1 H).2 hc64
  obtain ⟨hp39, H⟩ := H
  obtain ⟨r37, hr38⟩ : ∃ r_, r_ = M.impl_newWarp xs0 x1 := ⟨_, rfl⟩
  have H := H r37 hr38
  refine (impl_newWarp.con hp39 hr38 (R0.ext hB) hc0).mono ?_
  rintro _ w40 ⟨A42, c43, A44, c45, rfl, P3, P4, e41⟩
  have N3_2 := P3.apart_old O2.lt
  have N4_2 := P4.apart_old O2.lt
  have O2 := O2.ext e41
  have O3 := P3.mono hB.size
  have O4 := P4.mono hB.size
  have hB := ethen hB e41
  refine ⟨r37.Number, trivial, ?_⟩
  refine ⟨A42, r37.Frames.length, c43, trivial, ?_⟩
  refine ⟨A44, r37.Regs.length, c45, trivial, ?_⟩
  refine ⟨rfl, ?_⟩
  obtain ⟨hp48, H⟩ := H
  obtain ⟨r46, hr47⟩ : ∃ r_, r_ = M.impl_RunWarp xs0 r37 8000 := ⟨_, rfl⟩
  have H := H r46 hr47
  refine (impl_RunWarp.con hp48 hr47 (R0.ext hB) hc0 O3.row O3.le O4.row O4.le).mono ?_
  rintro _ w49 ⟨A51, c52, A53, c54, rfl, P5, P6, e50⟩
  have N5_2 := P5.apart_old O2.lt
  have N3_5 := Own.apart2_new O3 P5 (Nat.le_refl _)
  have N4_5 := Own.apart2_new O4 P5 (Nat.le_refl _)
  have N6_2 := P6.apart_old O2.lt
  have N3_6 := Own.apart2_new O3 P6 (Nat.le_refl _)
  have N4_6 := Own.apart2_new O4 P6 (Nat.le_refl _)
  have O2 := O2.ext e50
  have O3 := O3.ext e50
  have O4 := O4.ext e50
  have O5 := P5.mono hB.size
  have O6 := P6.mono hB.size
  have hB := ethen hB e50
  refine ⟨(.agg #[(.int .i64 r46.1.Number), (.slice A51 r46.1.Frames.length c52), (.slice A53 r46.1.Regs.length c54)]), ?_⟩
  refine ⟨r46.1.Number, trivial, ?_⟩
  refine ⟨A51, r46.1.Frames.length, c52, trivial, ?_⟩
  refine ⟨A53, r46.1.Regs.length, c54, trivial, ?_⟩
  refine ⟨rfl, ?_⟩
  refine ⟨(.int .i64 r46.2), ?_⟩
  refine ⟨r46.2, rfl, ?_⟩
  refine ⟨rfl, ?_⟩
  refine newBlk (fun g7_ w55 L7 P7 e56 => ?_)
  have N2_7 := O2.ne L7
  have N3_7 := O3.apart_new L7
  have N4_7 := O4.apart_new L7
  have N5_7 := O5.apart_new L7
  have N6_7 := O6.apart_new L7
  have O2 := O2.ext e56
  have O3 := O3.ext e56
  have O4 := O4.ext e56
  have O5 := O5.ext e56
  have O6 := O6.ext e56
  have O7 := P7
  have L7 := Nat.le_trans hB.size L7
  have hB := ethen hB e56
  refine stBlk O7 (o := 0) (cs' := #[(.int .i64 r46.1.Number), (.slice A51 r46.1.Frames.length c52), (.slice A53 r46.1.Regs.length c54)]) rfl rfl (Nat.le_of_ble_eq_true rfl) rfl (fun w57 P7 e58 => ?_)
  have O2_ := O2.chg e58 N2_7
  have O3_ := O3.chg e58 N3_7
  have O4_ := O4.chg e58 N4_7
  have O5_ := O5.chg e58 N5_7
  have O6_ := O6.chg e58 N6_7
  have O2 := O2_
  have O3 := O3_
  have O4 := O4_
  have O5 := O5_
  have O6 := O6_
  have hB := echg hB e58 L7
  have O7 := P7
  refine ⟨_, _, _, (O7.at 1 rfl rfl), ?_⟩
  refine bcase_mk (fun hc63 => ?_) (fun hc63 => ?_)
  · have H := (bcase_iff.1 H).1 hc63
    refine stBlk O2 (o := 0) (cs' := #[(.int .i64 0), (.slice none 0 0), (.slice none 0 0)]) rfl rfl (Nat.le_of_ble_eq_true rfl) rfl (fun w59 P2 e60 => ?_)
    have O5_ := O5.chg e60 N5_2
    have O6_ := O6.chg e60 N6_2
    have O7_ := O7.chg e60 (N2_7).symm
    have O5 := O5_
    have O6 := O6_
    have O7 := O7_
    have hB := echg hB e60 L2
    have O2 := P2
    refine ⟨_, (O2.at 0 rfl rfl), ?_⟩
    refine ⟨_, _, _, (O2.at 1 rfl rfl), ?_⟩
    refine ⟨_, _, _, (O2.at 2 rfl rfl), ?_⟩
    obtain rfl := hr.trans H.symm
    exact ⟨none, 0, none, 0, rfl, Own.nil, Own.nil, hB⟩
  have H := (bcase_iff.1 H).2 hc63
  refine ⟨_, (O7.at 0 rfl rfl), ?_⟩
  refine ⟨_, _, _, (O7.at 1 rfl rfl), ?_⟩
  refine ⟨_, _, _, (O7.at 2 rfl rfl), ?_⟩
  refine stBlk O2 (o := 0) (cs' := #[(.int .i64 r46.1.Number), (.slice A51 r46.1.Frames.length c52), (.slice A53 r46.1.Regs.length c54)]) rfl rfl (Nat.le_of_ble_eq_true rfl) rfl (fun w61 P2 e62 => ?_)
  have O5_ := O5.chg e62 N5_2
  have O6_ := O6.chg e62 N6_2
  have O7_ := O7.chg e62 (N2_7).symm
  have O5 := O5_
  have O6 := O6_
  have O7 := O7_
  have hB := echg hB e62 L2
  have O2 := P2
  refine ⟨_, (O2.at 0 rfl rfl), ?_⟩
  refine ⟨_, _, _, (O2.at 1 rfl rfl), ?_⟩
  refine ⟨_, _, _, (O2.at 2 rfl rfl), ?_⟩
  obtain rfl := hr.trans H.symm
  exact ⟨A51, c52, A53, c54, rfl, O5, O6, hB⟩
def spec_CountLanes.vc (x0 : Int) (w : World) (K : Value → World → Prop) : Prop :=
  Cll Tryz.prog 136 #[(.int .i64 x0)] w fun v21 w22 => (∃ (b23 : Bool), v21 = (.bool b23) ∧ bcase (!b23) (K (.int .i64 (-1)) w22) (LoopT (σ := Int × Int × Unit) (fun z24 w25 next26 => bcase (decide (z24.2.1 < 8)) (((0 : Int) ≤ z24.2.1 ∧ next26 ((IntKind.wrap .i64 (z24.1 + (bitAnd .i64 (Int.fdiv x0 (2 ^ (min (z24.2.1.toNat) (IntKind.bits .i64)))) 1))), (IntKind.wrap .i64 (z24.2.1 + 1)), ()) w25)) (K (.int .i64 z24.1) w25)) (0, 0, ()) w22))

def spec_CountLanes.ann : Ann := (.seq .l (.seq (.seq .l (.two (.seq .l .l) .l)) (.seq .l (.seq (.seq .l (.one (.loop [(3, .int .i64), (4, .int .i64)] (.seq (.seq .l (.two .l .l)) (.seq (.one .l) .l))))) (.seq .l .l)))))

theorem spec_CountLanes.start {x0 : Int} {w : World} {K : Value → World → Prop} (h : spec_CountLanes.vc x0 w K) : Cll Tryz.prog 87 #[(.int .i64 x0)] w K :=
  vcF_sound mixed (fn := Tryz.f87) (by kernel_rfl) (by kernel_rfl) (an := spec_CountLanes.ann) (args := [(.int .i64 x0)]) (Eq.mpr (by kernel_rfl) h)

theorem spec_CountLanes.con {x0 : Int} {r : Int} {w : World} (hp : M.spec_CountLanes_pre x0) (hr : r = M.spec_CountLanes x0)  :
    Cll Tryz.prog 87 #[(.int .i64 x0)] w (fun v_ w_ => v_ = (.int .i64 r) ∧ Ext w w_) := by
  have H := wp.spec_CountLanes.math x0 hp
  have hB := Ext.refl w
  refine spec_CountLanes.start ?_
  unfold spec_CountLanes.vc
  unfold wp.spec_CountLanes at H
  obtain ⟨r21, hr22⟩ : ∃ r_, r_ = M.spec_IsMask x0 := ⟨_, rfl⟩
  have H := H r21 hr22
  refine (spec_IsMask.con hr22 ).mono ?_
  rintro _ w24 ⟨rfl, e25⟩
  have hB := ethen hB e25
  refine ⟨r21, rfl, ?_⟩
  refine bcase_mk (fun hc42 => ?_) (fun hc42 => ?_)
  · have H := (bcase_iff.1 H).1 hc42
    obtain rfl := hr.trans H.symm
    exact ⟨rfl, hB⟩
  have H := (bcase_iff.1 H).2 hc42
  obtain ⟨J29, ⟨m40, hJ39⟩, hS30⟩ := H
  refine ⟨fun m_ z_ w_ => ∃ (i26 : Int) (i27 : Int), z_ = (i26, i27, ()) ∧ J29 m_ (i26, i27, ()) ∧ Ext w w_, ⟨m40, 0, 0, rfl, hJ39, hB⟩, ?_⟩
  rintro m28 _ w32 ⟨i26, i27, rfl, hJ41, hB⟩
  have H := hS30 m28 _ hJ41
  clear hS30 hJ41
  try dsimp only at H ⊢
  refine bcase_mk (fun hc37 => ?_) (fun hc37 => ?_)
  · have H := (bcase_iff.1 H).1 hc37
    obtain ⟨hc33, H⟩ := H
    refine ⟨hc33, ?_⟩
    obtain ⟨m34, hm35, hJ36⟩ := H
    exact ⟨m34, hm35, (IntKind.wrap .i64 (i26 + (bitAnd .i64 (Int.fdiv x0 (2 ^ (min (i27.toNat) (IntKind.bits .i64)))) 1))), (IntKind.wrap .i64 (i27 + 1)), rfl, hJ36, hB⟩
  have H := (bcase_iff.1 H).2 hc37
  obtain rfl := hr.trans H.symm
  exact ⟨rfl, hB⟩
def spec_CostOf.vc (A0 : Option Addr) (n0 : Nat) (c0 : Nat) (x1 : Int) (w : World) (K : Value → World → Prop) : Prop :=
  newK w (.cells #[(.int .i64 0), (.int .i64 0), (.int .i64 0)] 46) fun g21 w22 => Cll Tryz.prog 26 #[(.slice A0 n0 c0), (.int .i64 x1)] w22 fun v23 w24 => (∃ u25 : Value, (∃ (n26 : Int), True ∧ ∃ (A27 : Option Addr) (n28 : Nat) (c29 : Nat), True ∧ ∃ (A30 : Option Addr) (n31 : Nat) (c32 : Nat), True ∧ u25 = (.agg #[(.int .i64 n26), (.slice A27 n28 c29), (.slice A30 n31 c32)]) ∧ ∃ u33 : Value, (∃ (n34 : Int), u33 = (.int .i64 n34) ∧ ∃ u35 : Value, (∃ (b36 : Bool), u35 = (.bool b36) ∧ v23 = (.tuple #[(.agg #[(.int .i64 n26), (.slice A27 n28 c29), (.slice A30 n31 c32)]), (.int .i64 n34), (.bool b36)]) ∧ newK w24 (.cells #[(.int .i64 0), (.slice none 0 0), (.slice none 0 0)] 31) fun g37 w38 => stCells (⟨g37, 0, none⟩ : Addr) [(.int .i64 n26), (.slice A27 n28 c29), (.slice A30 n31 c32)] 0 w38 fun w39 => bcase (!b36) (stCells (⟨g21, 0, none⟩ : Addr) [(.int .i64 0), (.int .i64 0), (.int .i64 0)] 0 w39 fun w40 => ∃ (n41 : Int), w40.cell? ((⟨g21, 0, none⟩ : Addr).add 0) = some (.int .i64 n41) ∧ ∃ (n42 : Int), w40.cell? ((⟨g21, 0, none⟩ : Addr).add 1) = some (.int .i64 n42) ∧ ∃ (n43 : Int), w40.cell? ((⟨g21, 0, none⟩ : Addr).add 2) = some (.int .i64 n43) ∧ K (.tuple #[(.agg #[(.int .i64 n41), (.int .i64 n42), (.int .i64 n43)]), (.bool false)]) w40) (Cll Tryz.prog 81 #[(.slice A0 n0 c0), (.int .i64 x1)] w39 fun v44 w45 => (∃ u46 : Value, (∃ (n47 : Int), True ∧ ∃ (A48 : Option Addr) (n49 : Nat) (c50 : Nat), True ∧ ∃ (A51 : Option Addr) (n52 : Nat) (c53 : Nat), True ∧ u46 = (.agg #[(.int .i64 n47), (.slice A48 n49 c50), (.slice A51 n52 c53)]) ∧ ∃ u54 : Value, (∃ (b55 : Bool), u54 = (.bool b55) ∧ v44 = (.tuple #[(.agg #[(.int .i64 n47), (.slice A48 n49 c50), (.slice A51 n52 c53)]), (.bool b55)]) ∧ newK w45 (.cells #[(.int .i64 0), (.slice none 0 0), (.slice none 0 0)] 31) fun g56 w57 => stCells (⟨g56, 0, none⟩ : Addr) [(.int .i64 n47), (.slice A48 n49 c50), (.slice A51 n52 c53)] 0 w57 fun w58 => newK w58 (.cells #[(.int .i64 0), (.int .i64 0), (.int .i64 0)] 46) fun g59 w60 => stCells (⟨g59, 0, none⟩ : Addr) [(.int .i64 n34), (.int .i64 0), (.int .i64 0)] 0 w60 fun w61 => LoopT (σ := Int × Unit) (fun z62 w63 next64 => bcase (decide (z62.1 < n34)) ((∃ M65 : Nat → Prop, ∃ (n66 : Int), (¬ M65 (((⟨g59, 0, none⟩ : Addr).add 1)).block ∧ w63.cell? (((⟨g59, 0, none⟩ : Addr).add 1).add 0) = some (.int .i64 n66)) ∧ ∃ (n67 : Int), (¬ M65 ((⟨g56, 0, none⟩ : Addr)).block ∧ w63.cell? ((⟨g56, 0, none⟩ : Addr).add 0) = some (.int .i64 n67)) ∧ ∃ (A68 : Option Addr) (n69 : Nat) (c70 : Nat), (¬ M65 ((⟨g56, 0, none⟩ : Addr)).block ∧ w63.cell? ((⟨g56, 0, none⟩ : Addr).add 1) = some (.slice A68 n69 c70)) ∧ ∃ (A71 : Option Addr) (n72 : Nat) (c73 : Nat), (¬ M65 ((⟨g56, 0, none⟩ : Addr)).block ∧ w63.cell? ((⟨g56, 0, none⟩ : Addr).add 2) = some (.slice A71 n72 c73)) ∧ Cll Tryz.prog 88 #[(.agg #[(.int .i64 n67), (.slice A68 n69 c70), (.slice A71 n72 c73)])] w63.drew fun v74 w75 => (∃ (n76 : Int), v74 = (.int .i64 n76) ∧ SameBut M65 w63 w75 ∧ Cll Tryz.prog 87 #[(.int .i64 n76)] w75 fun v77 w78 => (∃ (n79 : Int), v77 = (.int .i64 n79) ∧ SameBut M65 w63 w78 ∧ stCells ((⟨g59, 0, none⟩ : Addr).add 1) [(.int .i64 (IntKind.wrap .i64 (n66 + n79)))] 0 w78 fun w80 => ∃ (n81 : Int), w80.cell? ((⟨g56, 0, none⟩ : Addr).add 0) = some (.int .i64 n81) ∧ ∃ (A82 : Option Addr) (n83 : Nat) (c84 : Nat), w80.cell? ((⟨g56, 0, none⟩ : Addr).add 1) = some (.slice A82 n83 c84) ∧ ∃ (A85 : Option Addr) (n86 : Nat) (c87 : Nat), w80.cell? ((⟨g56, 0, none⟩ : Addr).add 2) = some (.slice A85 n86 c87) ∧ Cll Tryz.prog 89 #[(.slice A0 n0 c0), (.agg #[(.int .i64 n81), (.slice A82 n83 c84), (.slice A85 n86 c87)])] w80 fun v88 w89 => (∃ (b90 : Bool), v88 = (.bool b90) ∧ bcase b90 (∃ (n91 : Int), w89.cell? (((⟨g59, 0, none⟩ : Addr).add 2).add 0) = some (.int .i64 n91) ∧ stCells ((⟨g59, 0, none⟩ : Addr).add 2) [(.int .i64 (IntKind.wrap .i64 (n91 + 1)))] 0 w89 fun w92 => ∃ (n93 : Int), w92.cell? ((⟨g56, 0, none⟩ : Addr).add 0) = some (.int .i64 n93) ∧ ∃ (A94 : Option Addr) (n95 : Nat) (c96 : Nat), w92.cell? ((⟨g56, 0, none⟩ : Addr).add 1) = some (.slice A94 n95 c96) ∧ ∃ (A97 : Option Addr) (n98 : Nat) (c99 : Nat), w92.cell? ((⟨g56, 0, none⟩ : Addr).add 2) = some (.slice A97 n98 c99) ∧ Cll Tryz.prog 84 #[(.slice A0 n0 c0), (.agg #[(.int .i64 n93), (.slice A94 n95 c96), (.slice A97 n98 c99)])] w92 fun v100 w101 => (∃ (n102 : Int), True ∧ ∃ (A103 : Option Addr) (n104 : Nat) (c105 : Nat), True ∧ ∃ (A106 : Option Addr) (n107 : Nat) (c108 : Nat), True ∧ v100 = (.agg #[(.int .i64 n102), (.slice A103 n104 c105), (.slice A106 n107 c108)]) ∧ stCells (⟨g56, 0, none⟩ : Addr) [(.int .i64 n102), (.slice A103 n104 c105), (.slice A106 n107 c108)] 0 w101 fun w109 => next64 ((IntKind.wrap .i64 (z62.1 + 1)), ()) w109)) (∃ (n110 : Int), w89.cell? ((⟨g56, 0, none⟩ : Addr).add 0) = some (.int .i64 n110) ∧ ∃ (A111 : Option Addr) (n112 : Nat) (c113 : Nat), w89.cell? ((⟨g56, 0, none⟩ : Addr).add 1) = some (.slice A111 n112 c113) ∧ ∃ (A114 : Option Addr) (n115 : Nat) (c116 : Nat), w89.cell? ((⟨g56, 0, none⟩ : Addr).add 2) = some (.slice A114 n115 c116) ∧ Cll Tryz.prog 84 #[(.slice A0 n0 c0), (.agg #[(.int .i64 n110), (.slice A111 n112 c113), (.slice A114 n115 c116)])] w89 fun v117 w118 => (∃ (n119 : Int), True ∧ ∃ (A120 : Option Addr) (n121 : Nat) (c122 : Nat), True ∧ ∃ (A123 : Option Addr) (n124 : Nat) (c125 : Nat), True ∧ v117 = (.agg #[(.int .i64 n119), (.slice A120 n121 c122), (.slice A123 n124 c125)]) ∧ stCells (⟨g56, 0, none⟩ : Addr) [(.int .i64 n119), (.slice A120 n121 c122), (.slice A123 n124 c125)] 0 w118 fun w126 => next64 ((IntKind.wrap .i64 (z62.1 + 1)), ()) w126))))))) (∃ (n127 : Int), w63.cell? ((⟨g59, 0, none⟩ : Addr).add 0) = some (.int .i64 n127) ∧ ∃ (n128 : Int), w63.cell? ((⟨g59, 0, none⟩ : Addr).add 1) = some (.int .i64 n128) ∧ ∃ (n129 : Int), w63.cell? ((⟨g59, 0, none⟩ : Addr).add 2) = some (.int .i64 n129) ∧ stCells (⟨g21, 0, none⟩ : Addr) [(.int .i64 n127), (.int .i64 n128), (.int .i64 n129)] 0 w63 fun w130 => ∃ (n131 : Int), w130.cell? ((⟨g21, 0, none⟩ : Addr).add 0) = some (.int .i64 n131) ∧ ∃ (n132 : Int), w130.cell? ((⟨g21, 0, none⟩ : Addr).add 1) = some (.int .i64 n132) ∧ ∃ (n133 : Int), w130.cell? ((⟨g21, 0, none⟩ : Addr).add 2) = some (.int .i64 n133) ∧ K (.tuple #[(.agg #[(.int .i64 n131), (.int .i64 n132), (.int .i64 n133)]), (.bool true)]) w130)) (0, ()) w61))))))))

def spec_CostOf.ann : Ann := (.seq .l (.seq .l (.seq (.seq .l (.two (.seq .l .l) .l)) (.seq .l (.seq .l (.seq (.seq .l (.one (.loop [(12, .int .i64)] (.seq (.seq .l (.two .l .l)) (.seq (.one (.seq .l (.seq (.seq .l (.two .l .l)) .l))) .l))))) (.seq .l .l)))))))

theorem spec_CostOf.start {A0 : Option Addr} {n0 : Nat} {c0 : Nat} {x1 : Int} {w : World} {K : Value → World → Prop} (h : spec_CostOf.vc A0 n0 c0 x1 w K) : Cll Tryz.prog 30 #[(.slice A0 n0 c0), (.int .i64 x1)] w K :=
  vcF_sound mixed (fn := Tryz.f30) (by kernel_rfl) (by kernel_rfl) (an := spec_CostOf.ann) (args := [(.slice A0 n0 c0), (.int .i64 x1)]) (Eq.mpr (by kernel_rfl) h)

theorem spec_CostOf.con {xs0 : List D.Ins} {A0 : Option Addr} {c0 : Nat} {x1 : Int} {r : D.Cost × Bool} {w : World} (hp : M.spec_CostOf_pre xs0 x1) (hr : r = M.spec_CostOf xs0 x1) (R0 : Row el89 w A0 xs0) (hc0 : xs0.length ≤ c0) :
    Cll Tryz.prog 30 #[(.slice A0 xs0.length c0), (.int .i64 x1)] w (fun v_ w_ => v_ = (.tuple #[(.agg #[(.int .i64 r.1.Steps), (.int .i64 r.1.Active), (.int .i64 r.1.Splits)]), (.bool r.2)]) ∧ Ext w w_) := by
  have H := wp.spec_CostOf.math xs0 x1 hp
  have hB := Ext.refl w
  refine spec_CostOf.start ?_
  unfold spec_CostOf.vc
  unfold wp.spec_CostOf at H
  refine newBlk (fun g2_ w21 L2 P2 e22 => ?_)
  have O2 := P2
  have L2 := Nat.le_trans hB.size L2
  have hB := ethen hB e22
  obtain ⟨hp25, H⟩ := H
  obtain ⟨r23, hr24⟩ : ∃ r_, r_ = M.spec_WarpResult xs0 x1 := ⟨_, rfl⟩
  have H := H r23 hr24
  refine (spec_WarpResult.con hp25 hr24 (R0.ext hB) hc0).mono ?_
  rintro _ w26 ⟨A28, c29, A30, c31, rfl, P3, P4, e27⟩
  have N3_2 := P3.apart_old O2.lt
  have N4_2 := P4.apart_old O2.lt
  have O2 := O2.ext e27
  have O3 := P3.mono hB.size
  have O4 := P4.mono hB.size
  have hB := ethen hB e27
  refine ⟨(.agg #[(.int .i64 r23.1.Number), (.slice A28 r23.1.Frames.length c29), (.slice A30 r23.1.Regs.length c31)]), ?_⟩
  refine ⟨r23.1.Number, trivial, ?_⟩
  refine ⟨A28, r23.1.Frames.length, c29, trivial, ?_⟩
  refine ⟨A30, r23.1.Regs.length, c31, trivial, ?_⟩
  refine ⟨rfl, ?_⟩
  refine ⟨(.int .i64 r23.2.1), ?_⟩
  refine ⟨r23.2.1, rfl, ?_⟩
  refine ⟨(.bool r23.2.2), ?_⟩
  refine ⟨r23.2.2, rfl, ?_⟩
  refine ⟨rfl, ?_⟩
  refine newBlk (fun g5_ w32 L5 P5 e33 => ?_)
  have N2_5 := O2.ne L5
  have N3_5 := O3.apart_new L5
  have N4_5 := O4.apart_new L5
  have O2 := O2.ext e33
  have O3 := O3.ext e33
  have O4 := O4.ext e33
  have O5 := P5
  have L5 := Nat.le_trans hB.size L5
  have hB := ethen hB e33
  refine stBlk O5 (o := 0) (cs' := #[(.int .i64 r23.1.Number), (.slice A28 r23.1.Frames.length c29), (.slice A30 r23.1.Regs.length c31)]) rfl rfl (Nat.le_of_ble_eq_true rfl) rfl (fun w34 P5 e35 => ?_)
  have O2_ := O2.chg e35 N2_5
  have O3_ := O3.chg e35 N3_5
  have O4_ := O4.chg e35 N4_5
  have O2 := O2_
  have O3 := O3_
  have O4 := O4_
  have hB := echg hB e35 L5
  have O5 := P5
  refine bcase_mk (fun hc164 => ?_) (fun hc164 => ?_)
  · have H := (bcase_iff.1 H).1 hc164
    refine stBlk O2 (o := 0) (cs' := #[(.int .i64 0), (.int .i64 0), (.int .i64 0)]) rfl rfl (Nat.le_of_ble_eq_true rfl) rfl (fun w36 P2 e37 => ?_)
    have hB := echg hB e37 L2
    have O2 := P2
    refine ⟨_, (O2.at 0 rfl rfl), ?_⟩
    refine ⟨_, (O2.at 1 rfl rfl), ?_⟩
    refine ⟨_, (O2.at 2 rfl rfl), ?_⟩
    obtain rfl := hr.trans H.symm
    exact ⟨rfl, hB⟩
  have H := (bcase_iff.1 H).2 hc164
  obtain ⟨hp40, H⟩ := H
  obtain ⟨r38, hr39⟩ : ∃ r_, r_ = M.spec_WarpNew xs0 x1 := ⟨_, rfl⟩
  have H := H r38 hr39
  refine (spec_WarpNew.con hp40 hr39 (R0.ext hB) hc0).mono ?_
  rintro _ w41 ⟨A43, c44, A45, c46, rfl, P6, P7, e42⟩
  have N6_2 := P6.apart_old O2.lt
  have N7_2 := P7.apart_old O2.lt
  have O2 := O2.ext e42
  have O6 := P6.mono hB.size
  have O7 := P7.mono hB.size
  have hB := ethen hB e42
  refine ⟨(.agg #[(.int .i64 r38.1.Number), (.slice A43 r38.1.Frames.length c44), (.slice A45 r38.1.Regs.length c46)]), ?_⟩
  refine ⟨r38.1.Number, trivial, ?_⟩
  refine ⟨A43, r38.1.Frames.length, c44, trivial, ?_⟩
  refine ⟨A45, r38.1.Regs.length, c46, trivial, ?_⟩
  refine ⟨rfl, ?_⟩
  refine ⟨(.bool r38.2), ?_⟩
  refine ⟨r38.2, rfl, ?_⟩
  refine ⟨rfl, ?_⟩
  refine newBlk (fun g8_ w47 L8 P8 e48 => ?_)
  have N2_8 := O2.ne L8
  have N6_8 := O6.apart_new L8
  have N7_8 := O7.apart_new L8
  have O2 := O2.ext e48
  have O6 := O6.ext e48
  have O7 := O7.ext e48
  have O8 := P8
  have L8 := Nat.le_trans hB.size L8
  have hB := ethen hB e48
  refine stBlk O8 (o := 0) (cs' := #[(.int .i64 r38.1.Number), (.slice A43 r38.1.Frames.length c44), (.slice A45 r38.1.Regs.length c46)]) rfl rfl (Nat.le_of_ble_eq_true rfl) rfl (fun w49 P8 e50 => ?_)
  have O2_ := O2.chg e50 N2_8
  have O6_ := O6.chg e50 N6_8
  have O7_ := O7.chg e50 N7_8
  have O2 := O2_
  have O6 := O6_
  have O7 := O7_
  have hB := echg hB e50 L8
  have O8 := P8
  refine newBlk (fun g9_ w51 L9 P9 e52 => ?_)
  have N2_9 := O2.ne L9
  have N6_9 := O6.apart_new L9
  have N7_9 := O7.apart_new L9
  have N8_9 := O8.ne L9
  have O2 := O2.ext e52
  have O6 := O6.ext e52
  have O7 := O7.ext e52
  have O8 := O8.ext e52
  have O9 := P9
  have L9 := Nat.le_trans hB.size L9
  have hB := ethen hB e52
  refine stBlk O9 (o := 0) (cs' := #[(.int .i64 r23.2.1), (.int .i64 0), (.int .i64 0)]) rfl rfl (Nat.le_of_ble_eq_true rfl) rfl (fun w53 P9 e54 => ?_)
  have O2_ := O2.chg e54 N2_9
  have O6_ := O6.chg e54 N6_9
  have O7_ := O7.chg e54 N7_9
  have O8_ := O8.chg e54 N8_9
  have O2 := O2_
  have O6 := O6_
  have O7 := O7_
  have O8 := O8_
  have hB := echg hB e54 L9
  have O9 := P9
  obtain ⟨J104, ⟨m162, hJ161⟩, hS105⟩ := H
  refine ⟨fun m_ z_ w_ => ∃ (i92 : Int) (i93 : Int) (xs94 : List D.Frame) (xs97 : List Int) (i100 : Int) (i101 : Int) (i102 : Int) (A95 : Option Addr) (c96 : Nat) (A98 : Option Addr) (c99 : Nat), z_ = (i92, ()) ∧ J104 m_ (i92, i93, xs94, xs97, i100, i101, i102, ()) ∧ Ext w w_ ∧ Blk w_ g8_ 31 #[(.int .i64 i93), (.slice A95 xs94.length c96), (.slice A98 xs97.length c99)] ∧ Own el130 w_ w.heap.size A95 c96 xs94 ∧ Own el3 w_ w.heap.size A98 c99 xs97 ∧ Blk w_ g9_ 46 #[(.int .i64 i100), (.int .i64 i101), (.int .i64 i102)] ∧ Blk w_ g2_ 46 #[(.int .i64 0), (.int .i64 0), (.int .i64 0)], ⟨m162, 0, r38.1.Number, r38.1.Frames, r38.1.Regs, r23.2.1, 0, 0, A43, c44, A45, c46, rfl, hJ161, hB, O8, O6, O7, O9, O2⟩, ?_⟩
  rintro m103 _ w107 ⟨i92, i93, xs94, xs97, i100, i101, i102, A95, c96, A98, c99, rfl, hJ163, hB, O8, O12, O13, O9, O2⟩
  have H := hS105 m103 _ hJ163
  clear hS105 hJ163
  try dsimp only at H ⊢
  refine bcase_mk (fun hc159 => ?_) (fun hc159 => ?_)
  · have H := (bcase_iff.1 H).1 hc159
    refine ⟨(fun _ => False), ?_⟩
    refine ⟨_, ⟨(fun h_ => h_), (O9.at 1 rfl rfl)⟩, ?_⟩
    refine ⟨_, ⟨(fun h_ => h_), (O8.at 0 rfl rfl)⟩, ?_⟩
    refine ⟨_, _, _, ⟨(fun h_ => h_), (O8.at 1 rfl rfl)⟩, ?_⟩
    refine ⟨_, _, _, ⟨(fun h_ => h_), (O8.at 2 rfl rfl)⟩, ?_⟩
    have hS108 := Chg.refl (fun _ => False) w107
    have O2 := O2.ext (Ext.drew _)
    have O8 := O8.ext (Ext.drew _)
    have O9 := O9.ext (Ext.drew _)
    have O12 := O12.ext (Ext.drew _)
    have O13 := O13.ext (Ext.drew _)
    have hB := ethen hB (Ext.drew _)
    have hS108 := hS108.then (Ext.drew _)
    obtain ⟨hp111, H⟩ := H
    obtain ⟨r109, hr110⟩ : ∃ r_, r_ = M.spec_ActiveMask (⟨i93, xs94, xs97⟩ : D.Warp) := ⟨_, rfl⟩
    have H := H r109 hr110
    refine (spec_ActiveMask.con hp111 hr110 O12.row O12.le O13.row O13.le).mono ?_
    rintro _ w112 ⟨rfl, e113⟩
    have O2 := O2.ext e113
    have O8 := O8.ext e113
    have O9 := O9.ext e113
    have O12 := O12.ext e113
    have O13 := O13.ext e113
    have hB := ethen hB e113
    have hS108 := hS108.then e113
    refine ⟨r109, rfl, ?_⟩
    refine ⟨sameBut_chg hS108, ?_⟩
    obtain ⟨hp116, H⟩ := H
    obtain ⟨r114, hr115⟩ : ∃ r_, r_ = M.spec_CountLanes r109 := ⟨_, rfl⟩
    have H := H r114 hr115
    refine (spec_CountLanes.con hp116 hr115 ).mono ?_
    rintro _ w117 ⟨rfl, e118⟩
    have O2 := O2.ext e118
    have O8 := O8.ext e118
    have O9 := O9.ext e118
    have O12 := O12.ext e118
    have O13 := O13.ext e118
    have hB := ethen hB e118
    have hS108 := hS108.then e118
    refine ⟨r114, rfl, ?_⟩
    refine ⟨sameBut_chg hS108, ?_⟩
    refine stBlk O9 (o := 1) (cs' := #[(.int .i64 i100), (.int .i64 (IntKind.wrap .i64 (i101 + r114))), (.int .i64 i102)]) rfl rfl (Nat.le_of_ble_eq_true rfl) rfl (fun w119 P9 e120 => ?_)
    have O2_ := O2.chg e120 N2_9
    have O8_ := O8.chg e120 N8_9
    have O12_ := O12.chg e120 (O12.apart_type O9 (by decide))
    have O13_ := O13.chg e120 (O13.apart_type O9 (by decide))
    have O2 := O2_
    have O8 := O8_
    have O12 := O12_
    have O13 := O13_
    have hB := echg hB e120 L9
    have O9 := P9
    refine ⟨_, (O8.at 0 rfl rfl), ?_⟩
    refine ⟨_, _, _, (O8.at 1 rfl rfl), ?_⟩
    refine ⟨_, _, _, (O8.at 2 rfl rfl), ?_⟩
    obtain ⟨hp123, H⟩ := H
    obtain ⟨r121, hr122⟩ : ∃ r_, r_ = M.spec_l13Splits xs0 (⟨i93, xs94, xs97⟩ : D.Warp) := ⟨_, rfl⟩
    have H := H r121 hr122
    refine (spec_l13Splits.con hp123 hr122 (R0.ext hB) hc0 O12.row O12.le O13.row O13.le).mono ?_
    rintro _ w124 ⟨rfl, e125⟩
    have O2 := O2.ext e125
    have O8 := O8.ext e125
    have O9 := O9.ext e125
    have O12 := O12.ext e125
    have O13 := O13.ext e125
    have hB := ethen hB e125
    refine ⟨r121, rfl, ?_⟩
    refine bcase_mk (fun hc156 => ?_) (fun hc156 => ?_)
    · have H := (bcase_iff.1 H).1 hc156
      refine ⟨_, (O9.at 2 rfl rfl), ?_⟩
      refine stBlk O9 (o := 2) (cs' := #[(.int .i64 i100), (.int .i64 (IntKind.wrap .i64 (i101 + r114))), (.int .i64 (IntKind.wrap .i64 (i102 + 1)))]) rfl rfl (Nat.le_of_ble_eq_true rfl) rfl (fun w126 P9 e127 => ?_)
      have O2_ := O2.chg e127 N2_9
      have O8_ := O8.chg e127 N8_9
      have O12_ := O12.chg e127 (O12.apart_type O9 (by decide))
      have O13_ := O13.chg e127 (O13.apart_type O9 (by decide))
      have O2 := O2_
      have O8 := O8_
      have O12 := O12_
      have O13 := O13_
      have hB := echg hB e127 L9
      have O9 := P9
      refine ⟨_, (O8.at 0 rfl rfl), ?_⟩
      refine ⟨_, _, _, (O8.at 1 rfl rfl), ?_⟩
      refine ⟨_, _, _, (O8.at 2 rfl rfl), ?_⟩
      obtain ⟨hp130, H⟩ := H
      obtain ⟨r128, hr129⟩ : ∃ r_, r_ = M.spec_l13Step xs0 (⟨i93, xs94, xs97⟩ : D.Warp) := ⟨_, rfl⟩
      have H := H r128 hr129
      refine (spec_l13Step.con hp130 hr129 (R0.ext hB) hc0 O12.row O12.le O13.row O13.le).mono ?_
      rintro _ w131 ⟨A133, c134, A135, c136, rfl, P14, P15, e132⟩
      have N14_2 := P14.apart_old O2.lt
      have N14_8 := P14.apart_old O8.lt
      have N14_9 := P14.apart_old O9.lt
      have N12_14 := Own.apart2_new O12 P14 (Nat.le_refl _)
      have N13_14 := Own.apart2_new O13 P14 (Nat.le_refl _)
      have N15_2 := P15.apart_old O2.lt
      have N15_8 := P15.apart_old O8.lt
      have N15_9 := P15.apart_old O9.lt
      have N12_15 := Own.apart2_new O12 P15 (Nat.le_refl _)
      have N13_15 := Own.apart2_new O13 P15 (Nat.le_refl _)
      have O2 := O2.ext e132
      have O8 := O8.ext e132
      have O9 := O9.ext e132
      have O12 := O12.ext e132
      have O13 := O13.ext e132
      have O14 := P14.mono hB.size
      have O15 := P15.mono hB.size
      have hB := ethen hB e132
      refine ⟨r128.Number, trivial, ?_⟩
      refine ⟨A133, r128.Frames.length, c134, trivial, ?_⟩
      refine ⟨A135, r128.Regs.length, c136, trivial, ?_⟩
      refine ⟨rfl, ?_⟩
      refine stBlk O8 (o := 0) (cs' := #[(.int .i64 r128.Number), (.slice A133 r128.Frames.length c134), (.slice A135 r128.Regs.length c136)]) rfl rfl (Nat.le_of_ble_eq_true rfl) rfl (fun w137 P8 e138 => ?_)
      have O2_ := O2.chg e138 N2_8
      have O9_ := O9.chg e138 (N8_9).symm
      have O12_ := O12.chg e138 (O12.apart_type O8 (by decide))
      have O13_ := O13.chg e138 (O13.apart_type O8 (by decide))
      have O14_ := O14.chg e138 N14_8
      have O15_ := O15.chg e138 N15_8
      have O2 := O2_
      have O9 := O9_
      have O12 := O12_
      have O13 := O13_
      have O14 := O14_
      have O15 := O15_
      have hB := echg hB e138 L8
      have O8 := P8
      obtain ⟨m139, hm140, hJ141⟩ := H
      exact ⟨m139, hm140, (IntKind.wrap .i64 (i92 + 1)), r128.Number, r128.Frames, r128.Regs, i100, (IntKind.wrap .i64 (i101 + r114)), (IntKind.wrap .i64 (i102 + 1)), A133, c134, A135, c136, rfl, hJ141, hB, O8, O14, O15, O9, O2⟩
    have H := (bcase_iff.1 H).2 hc156
    refine ⟨_, (O8.at 0 rfl rfl), ?_⟩
    refine ⟨_, _, _, (O8.at 1 rfl rfl), ?_⟩
    refine ⟨_, _, _, (O8.at 2 rfl rfl), ?_⟩
    obtain ⟨hp144, H⟩ := H
    obtain ⟨r142, hr143⟩ : ∃ r_, r_ = M.spec_l13Step xs0 (⟨i93, xs94, xs97⟩ : D.Warp) := ⟨_, rfl⟩
    have H := H r142 hr143
    refine (spec_l13Step.con hp144 hr143 (R0.ext hB) hc0 O12.row O12.le O13.row O13.le).mono ?_
    rintro _ w145 ⟨A147, c148, A149, c150, rfl, P16, P17, e146⟩
    have N16_2 := P16.apart_old O2.lt
    have N16_8 := P16.apart_old O8.lt
    have N16_9 := P16.apart_old O9.lt
    have N12_16 := Own.apart2_new O12 P16 (Nat.le_refl _)
    have N13_16 := Own.apart2_new O13 P16 (Nat.le_refl _)
    have N17_2 := P17.apart_old O2.lt
    have N17_8 := P17.apart_old O8.lt
    have N17_9 := P17.apart_old O9.lt
    have N12_17 := Own.apart2_new O12 P17 (Nat.le_refl _)
    have N13_17 := Own.apart2_new O13 P17 (Nat.le_refl _)
    have O2 := O2.ext e146
    have O8 := O8.ext e146
    have O9 := O9.ext e146
    have O12 := O12.ext e146
    have O13 := O13.ext e146
    have O16 := P16.mono hB.size
    have O17 := P17.mono hB.size
    have hB := ethen hB e146
    refine ⟨r142.Number, trivial, ?_⟩
    refine ⟨A147, r142.Frames.length, c148, trivial, ?_⟩
    refine ⟨A149, r142.Regs.length, c150, trivial, ?_⟩
    refine ⟨rfl, ?_⟩
    refine stBlk O8 (o := 0) (cs' := #[(.int .i64 r142.Number), (.slice A147 r142.Frames.length c148), (.slice A149 r142.Regs.length c150)]) rfl rfl (Nat.le_of_ble_eq_true rfl) rfl (fun w151 P8 e152 => ?_)
    have O2_ := O2.chg e152 N2_8
    have O9_ := O9.chg e152 (N8_9).symm
    have O12_ := O12.chg e152 (O12.apart_type O8 (by decide))
    have O13_ := O13.chg e152 (O13.apart_type O8 (by decide))
    have O16_ := O16.chg e152 N16_8
    have O17_ := O17.chg e152 N17_8
    have O2 := O2_
    have O9 := O9_
    have O12 := O12_
    have O13 := O13_
    have O16 := O16_
    have O17 := O17_
    have hB := echg hB e152 L8
    have O8 := P8
    obtain ⟨m153, hm154, hJ155⟩ := H
    exact ⟨m153, hm154, (IntKind.wrap .i64 (i92 + 1)), r142.Number, r142.Frames, r142.Regs, i100, (IntKind.wrap .i64 (i101 + r114)), i102, A147, c148, A149, c150, rfl, hJ155, hB, O8, O16, O17, O9, O2⟩
  have H := (bcase_iff.1 H).2 hc159
  refine ⟨_, (O9.at 0 rfl rfl), ?_⟩
  refine ⟨_, (O9.at 1 rfl rfl), ?_⟩
  refine ⟨_, (O9.at 2 rfl rfl), ?_⟩
  refine stBlk O2 (o := 0) (cs' := #[(.int .i64 i100), (.int .i64 i101), (.int .i64 i102)]) rfl rfl (Nat.le_of_ble_eq_true rfl) rfl (fun w157 P2 e158 => ?_)
  have O9_ := O9.chg e158 (N2_9).symm
  have O9 := O9_
  have hB := echg hB e158 L2
  have O2 := P2
  refine ⟨_, (O2.at 0 rfl rfl), ?_⟩
  refine ⟨_, (O2.at 1 rfl rfl), ?_⟩
  refine ⟨_, (O2.at 2 rfl rfl), ?_⟩
  obtain rfl := hr.trans H.symm
  exact ⟨rfl, hB⟩
def math_bits_OnesCount64.vc (x0 : Int) (w : World) (K : Value → World → Prop) : Prop :=
  ((0 : Int) ≤ 1 ∧ ((0 : Int) ≤ 2 ∧ ((0 : Int) ≤ 4 ∧ ((0 : Int) ≤ 8 ∧ ((0 : Int) ≤ 16 ∧ ((0 : Int) ≤ 32 ∧ K (.int .i64 (bitAnd .i64 (IntKind.wrap .i64 (IntKind.wrap .u64 ((IntKind.wrap .u64 ((IntKind.wrap .u64 ((bitAnd .u64 (IntKind.wrap .u64 ((Int.fdiv (IntKind.wrap .u64 ((bitAnd .u64 (Int.fdiv (IntKind.wrap .u64 ((bitAnd .u64 (Int.fdiv x0 (2 ^ (min ((1 : Int).toNat) (IntKind.bits .u64)))) 6148914691236517205) + (bitAnd .u64 x0 6148914691236517205))) (2 ^ (min ((2 : Int).toNat) (IntKind.bits .u64)))) 3689348814741910323) + (bitAnd .u64 (IntKind.wrap .u64 ((bitAnd .u64 (Int.fdiv x0 (2 ^ (min ((1 : Int).toNat) (IntKind.bits .u64)))) 6148914691236517205) + (bitAnd .u64 x0 6148914691236517205))) 3689348814741910323))) (2 ^ (min ((4 : Int).toNat) (IntKind.bits .u64)))) + (IntKind.wrap .u64 ((bitAnd .u64 (Int.fdiv (IntKind.wrap .u64 ((bitAnd .u64 (Int.fdiv x0 (2 ^ (min ((1 : Int).toNat) (IntKind.bits .u64)))) 6148914691236517205) + (bitAnd .u64 x0 6148914691236517205))) (2 ^ (min ((2 : Int).toNat) (IntKind.bits .u64)))) 3689348814741910323) + (bitAnd .u64 (IntKind.wrap .u64 ((bitAnd .u64 (Int.fdiv x0 (2 ^ (min ((1 : Int).toNat) (IntKind.bits .u64)))) 6148914691236517205) + (bitAnd .u64 x0 6148914691236517205))) 3689348814741910323))))) 1085102592571150095) + (Int.fdiv (bitAnd .u64 (IntKind.wrap .u64 ((Int.fdiv (IntKind.wrap .u64 ((bitAnd .u64 (Int.fdiv (IntKind.wrap .u64 ((bitAnd .u64 (Int.fdiv x0 (2 ^ (min ((1 : Int).toNat) (IntKind.bits .u64)))) 6148914691236517205) + (bitAnd .u64 x0 6148914691236517205))) (2 ^ (min ((2 : Int).toNat) (IntKind.bits .u64)))) 3689348814741910323) + (bitAnd .u64 (IntKind.wrap .u64 ((bitAnd .u64 (Int.fdiv x0 (2 ^ (min ((1 : Int).toNat) (IntKind.bits .u64)))) 6148914691236517205) + (bitAnd .u64 x0 6148914691236517205))) 3689348814741910323))) (2 ^ (min ((4 : Int).toNat) (IntKind.bits .u64)))) + (IntKind.wrap .u64 ((bitAnd .u64 (Int.fdiv (IntKind.wrap .u64 ((bitAnd .u64 (Int.fdiv x0 (2 ^ (min ((1 : Int).toNat) (IntKind.bits .u64)))) 6148914691236517205) + (bitAnd .u64 x0 6148914691236517205))) (2 ^ (min ((2 : Int).toNat) (IntKind.bits .u64)))) 3689348814741910323) + (bitAnd .u64 (IntKind.wrap .u64 ((bitAnd .u64 (Int.fdiv x0 (2 ^ (min ((1 : Int).toNat) (IntKind.bits .u64)))) 6148914691236517205) + (bitAnd .u64 x0 6148914691236517205))) 3689348814741910323))))) 1085102592571150095) (2 ^ (min ((8 : Int).toNat) (IntKind.bits .u64)))))) + (Int.fdiv (IntKind.wrap .u64 ((bitAnd .u64 (IntKind.wrap .u64 ((Int.fdiv (IntKind.wrap .u64 ((bitAnd .u64 (Int.fdiv (IntKind.wrap .u64 ((bitAnd .u64 (Int.fdiv x0 (2 ^ (min ((1 : Int).toNat) (IntKind.bits .u64)))) 6148914691236517205) + (bitAnd .u64 x0 6148914691236517205))) (2 ^ (min ((2 : Int).toNat) (IntKind.bits .u64)))) 3689348814741910323) + (bitAnd .u64 (IntKind.wrap .u64 ((bitAnd .u64 (Int.fdiv x0 (2 ^ (min ((1 : Int).toNat) (IntKind.bits .u64)))) 6148914691236517205) + (bitAnd .u64 x0 6148914691236517205))) 3689348814741910323))) (2 ^ (min ((4 : Int).toNat) (IntKind.bits .u64)))) + (IntKind.wrap .u64 ((bitAnd .u64 (Int.fdiv (IntKind.wrap .u64 ((bitAnd .u64 (Int.fdiv x0 (2 ^ (min ((1 : Int).toNat) (IntKind.bits .u64)))) 6148914691236517205) + (bitAnd .u64 x0 6148914691236517205))) (2 ^ (min ((2 : Int).toNat) (IntKind.bits .u64)))) 3689348814741910323) + (bitAnd .u64 (IntKind.wrap .u64 ((bitAnd .u64 (Int.fdiv x0 (2 ^ (min ((1 : Int).toNat) (IntKind.bits .u64)))) 6148914691236517205) + (bitAnd .u64 x0 6148914691236517205))) 3689348814741910323))))) 1085102592571150095) + (Int.fdiv (bitAnd .u64 (IntKind.wrap .u64 ((Int.fdiv (IntKind.wrap .u64 ((bitAnd .u64 (Int.fdiv (IntKind.wrap .u64 ((bitAnd .u64 (Int.fdiv x0 (2 ^ (min ((1 : Int).toNat) (IntKind.bits .u64)))) 6148914691236517205) + (bitAnd .u64 x0 6148914691236517205))) (2 ^ (min ((2 : Int).toNat) (IntKind.bits .u64)))) 3689348814741910323) + (bitAnd .u64 (IntKind.wrap .u64 ((bitAnd .u64 (Int.fdiv x0 (2 ^ (min ((1 : Int).toNat) (IntKind.bits .u64)))) 6148914691236517205) + (bitAnd .u64 x0 6148914691236517205))) 3689348814741910323))) (2 ^ (min ((4 : Int).toNat) (IntKind.bits .u64)))) + (IntKind.wrap .u64 ((bitAnd .u64 (Int.fdiv (IntKind.wrap .u64 ((bitAnd .u64 (Int.fdiv x0 (2 ^ (min ((1 : Int).toNat) (IntKind.bits .u64)))) 6148914691236517205) + (bitAnd .u64 x0 6148914691236517205))) (2 ^ (min ((2 : Int).toNat) (IntKind.bits .u64)))) 3689348814741910323) + (bitAnd .u64 (IntKind.wrap .u64 ((bitAnd .u64 (Int.fdiv x0 (2 ^ (min ((1 : Int).toNat) (IntKind.bits .u64)))) 6148914691236517205) + (bitAnd .u64 x0 6148914691236517205))) 3689348814741910323))))) 1085102592571150095) (2 ^ (min ((8 : Int).toNat) (IntKind.bits .u64)))))) (2 ^ (min ((16 : Int).toNat) (IntKind.bits .u64)))))) + (Int.fdiv (IntKind.wrap .u64 ((IntKind.wrap .u64 ((bitAnd .u64 (IntKind.wrap .u64 ((Int.fdiv (IntKind.wrap .u64 ((bitAnd .u64 (Int.fdiv (IntKind.wrap .u64 ((bitAnd .u64 (Int.fdiv x0 (2 ^ (min ((1 : Int).toNat) (IntKind.bits .u64)))) 6148914691236517205) + (bitAnd .u64 x0 6148914691236517205))) (2 ^ (min ((2 : Int).toNat) (IntKind.bits .u64)))) 3689348814741910323) + (bitAnd .u64 (IntKind.wrap .u64 ((bitAnd .u64 (Int.fdiv x0 (2 ^ (min ((1 : Int).toNat) (IntKind.bits .u64)))) 6148914691236517205) + (bitAnd .u64 x0 6148914691236517205))) 3689348814741910323))) (2 ^ (min ((4 : Int).toNat) (IntKind.bits .u64)))) + (IntKind.wrap .u64 ((bitAnd .u64 (Int.fdiv (IntKind.wrap .u64 ((bitAnd .u64 (Int.fdiv x0 (2 ^ (min ((1 : Int).toNat) (IntKind.bits .u64)))) 6148914691236517205) + (bitAnd .u64 x0 6148914691236517205))) (2 ^ (min ((2 : Int).toNat) (IntKind.bits .u64)))) 3689348814741910323) + (bitAnd .u64 (IntKind.wrap .u64 ((bitAnd .u64 (Int.fdiv x0 (2 ^ (min ((1 : Int).toNat) (IntKind.bits .u64)))) 6148914691236517205) + (bitAnd .u64 x0 6148914691236517205))) 3689348814741910323))))) 1085102592571150095) + (Int.fdiv (bitAnd .u64 (IntKind.wrap .u64 ((Int.fdiv (IntKind.wrap .u64 ((bitAnd .u64 (Int.fdiv (IntKind.wrap .u64 ((bitAnd .u64 (Int.fdiv x0 (2 ^ (min ((1 : Int).toNat) (IntKind.bits .u64)))) 6148914691236517205) + (bitAnd .u64 x0 6148914691236517205))) (2 ^ (min ((2 : Int).toNat) (IntKind.bits .u64)))) 3689348814741910323) + (bitAnd .u64 (IntKind.wrap .u64 ((bitAnd .u64 (Int.fdiv x0 (2 ^ (min ((1 : Int).toNat) (IntKind.bits .u64)))) 6148914691236517205) + (bitAnd .u64 x0 6148914691236517205))) 3689348814741910323))) (2 ^ (min ((4 : Int).toNat) (IntKind.bits .u64)))) + (IntKind.wrap .u64 ((bitAnd .u64 (Int.fdiv (IntKind.wrap .u64 ((bitAnd .u64 (Int.fdiv x0 (2 ^ (min ((1 : Int).toNat) (IntKind.bits .u64)))) 6148914691236517205) + (bitAnd .u64 x0 6148914691236517205))) (2 ^ (min ((2 : Int).toNat) (IntKind.bits .u64)))) 3689348814741910323) + (bitAnd .u64 (IntKind.wrap .u64 ((bitAnd .u64 (Int.fdiv x0 (2 ^ (min ((1 : Int).toNat) (IntKind.bits .u64)))) 6148914691236517205) + (bitAnd .u64 x0 6148914691236517205))) 3689348814741910323))))) 1085102592571150095) (2 ^ (min ((8 : Int).toNat) (IntKind.bits .u64)))))) + (Int.fdiv (IntKind.wrap .u64 ((bitAnd .u64 (IntKind.wrap .u64 ((Int.fdiv (IntKind.wrap .u64 ((bitAnd .u64 (Int.fdiv (IntKind.wrap .u64 ((bitAnd .u64 (Int.fdiv x0 (2 ^ (min ((1 : Int).toNat) (IntKind.bits .u64)))) 6148914691236517205) + (bitAnd .u64 x0 6148914691236517205))) (2 ^ (min ((2 : Int).toNat) (IntKind.bits .u64)))) 3689348814741910323) + (bitAnd .u64 (IntKind.wrap .u64 ((bitAnd .u64 (Int.fdiv x0 (2 ^ (min ((1 : Int).toNat) (IntKind.bits .u64)))) 6148914691236517205) + (bitAnd .u64 x0 6148914691236517205))) 3689348814741910323))) (2 ^ (min ((4 : Int).toNat) (IntKind.bits .u64)))) + (IntKind.wrap .u64 ((bitAnd .u64 (Int.fdiv (IntKind.wrap .u64 ((bitAnd .u64 (Int.fdiv x0 (2 ^ (min ((1 : Int).toNat) (IntKind.bits .u64)))) 6148914691236517205) + (bitAnd .u64 x0 6148914691236517205))) (2 ^ (min ((2 : Int).toNat) (IntKind.bits .u64)))) 3689348814741910323) + (bitAnd .u64 (IntKind.wrap .u64 ((bitAnd .u64 (Int.fdiv x0 (2 ^ (min ((1 : Int).toNat) (IntKind.bits .u64)))) 6148914691236517205) + (bitAnd .u64 x0 6148914691236517205))) 3689348814741910323))))) 1085102592571150095) + (Int.fdiv (bitAnd .u64 (IntKind.wrap .u64 ((Int.fdiv (IntKind.wrap .u64 ((bitAnd .u64 (Int.fdiv (IntKind.wrap .u64 ((bitAnd .u64 (Int.fdiv x0 (2 ^ (min ((1 : Int).toNat) (IntKind.bits .u64)))) 6148914691236517205) + (bitAnd .u64 x0 6148914691236517205))) (2 ^ (min ((2 : Int).toNat) (IntKind.bits .u64)))) 3689348814741910323) + (bitAnd .u64 (IntKind.wrap .u64 ((bitAnd .u64 (Int.fdiv x0 (2 ^ (min ((1 : Int).toNat) (IntKind.bits .u64)))) 6148914691236517205) + (bitAnd .u64 x0 6148914691236517205))) 3689348814741910323))) (2 ^ (min ((4 : Int).toNat) (IntKind.bits .u64)))) + (IntKind.wrap .u64 ((bitAnd .u64 (Int.fdiv (IntKind.wrap .u64 ((bitAnd .u64 (Int.fdiv x0 (2 ^ (min ((1 : Int).toNat) (IntKind.bits .u64)))) 6148914691236517205) + (bitAnd .u64 x0 6148914691236517205))) (2 ^ (min ((2 : Int).toNat) (IntKind.bits .u64)))) 3689348814741910323) + (bitAnd .u64 (IntKind.wrap .u64 ((bitAnd .u64 (Int.fdiv x0 (2 ^ (min ((1 : Int).toNat) (IntKind.bits .u64)))) 6148914691236517205) + (bitAnd .u64 x0 6148914691236517205))) 3689348814741910323))))) 1085102592571150095) (2 ^ (min ((8 : Int).toNat) (IntKind.bits .u64)))))) (2 ^ (min ((16 : Int).toNat) (IntKind.bits .u64)))))) (2 ^ (min ((32 : Int).toNat) (IntKind.bits .u64))))))) 127)) w))))))

def math_bits_OnesCount64.ann : Ann := (.seq .l (.seq .l (.seq .l (.seq .l (.seq .l (.seq .l (.seq .l (.seq .l .l))))))))

theorem math_bits_OnesCount64.start {x0 : Int} {w : World} {K : Value → World → Prop} (h : math_bits_OnesCount64.vc x0 w K) : Cll Tryz.prog 207 #[(.int .u64 x0)] w K :=
  vcF_sound mixed (fn := Tryz.f207) (by kernel_rfl) (by kernel_rfl) (an := math_bits_OnesCount64.ann) (args := [(.int .u64 x0)]) (Eq.mpr (by kernel_rfl) h)

theorem math_bits_OnesCount64.con {x0 : Int} {r : Int} {w : World} (hp : M.math_bits_OnesCount64_pre x0) (hr : r = M.math_bits_OnesCount64 x0)  :
    Cll Tryz.prog 207 #[(.int .u64 x0)] w (fun v_ w_ => v_ = (.int .i64 r) ∧ Ext w w_) := by
  have H := wp.math_bits_OnesCount64.math x0 hp
  have hB := Ext.refl w
  refine math_bits_OnesCount64.start ?_
  unfold math_bits_OnesCount64.vc
  unfold wp.math_bits_OnesCount64 at H
  refine ⟨by decide, ?_⟩
  refine ⟨by decide, ?_⟩
  refine ⟨by decide, ?_⟩
  refine ⟨by decide, ?_⟩
  refine ⟨by decide, ?_⟩
  refine ⟨by decide, ?_⟩
  obtain rfl := hr.trans H.symm
  exact ⟨rfl, hB⟩
def math_bits_OnesCount.vc (x0 : Int) (w : World) (K : Value → World → Prop) : Prop :=
  Cll Tryz.prog 207 #[(.int .u64 x0)] w fun v21 w22 => (∃ (n23 : Int), v21 = (.int .i64 n23) ∧ K (.int .i64 n23) w22)

def math_bits_OnesCount.ann : Ann := (.seq .l (.seq (.two (.seq .l .l) .l) (.seq .l .l)))

theorem math_bits_OnesCount.start {x0 : Int} {w : World} {K : Value → World → Prop} (h : math_bits_OnesCount.vc x0 w K) : Cll Tryz.prog 154 #[(.int .u64 x0)] w K :=
  vcF_sound mixed (fn := Tryz.f154) (by kernel_rfl) (by kernel_rfl) (an := math_bits_OnesCount.ann) (args := [(.int .u64 x0)]) (Eq.mpr (by kernel_rfl) h)

theorem math_bits_OnesCount.con {x0 : Int} {r : Int} {w : World} (hp : M.math_bits_OnesCount_pre x0) (hr : r = M.math_bits_OnesCount x0)  :
    Cll Tryz.prog 154 #[(.int .u64 x0)] w (fun v_ w_ => v_ = (.int .i64 r) ∧ Ext w w_) := by
  have H := wp.math_bits_OnesCount.math x0 hp
  have hB := Ext.refl w
  refine math_bits_OnesCount.start ?_
  unfold math_bits_OnesCount.vc
  unfold wp.math_bits_OnesCount at H
  obtain ⟨hp23, H⟩ := H
  obtain ⟨r21, hr22⟩ : ∃ r_, r_ = M.math_bits_OnesCount64 x0 := ⟨_, rfl⟩
  have H := H r21 hr22
  refine (math_bits_OnesCount64.con hp23 hr22 ).mono ?_
  rintro _ w24 ⟨rfl, e25⟩
  have hB := ethen hB e25
  refine ⟨r21, rfl, ?_⟩
  obtain rfl := hr.trans H.symm
  exact ⟨rfl, hB⟩
def impl_CountLanes.vc (x0 : Int) (w : World) (K : Value → World → Prop) : Prop :=
  Cll Tryz.prog 153 #[(.int .i64 x0)] w fun v21 w22 => (∃ (b23 : Bool), v21 = (.bool b23) ∧ bcase (!b23) (K (.int .i64 (-1)) w22) (Cll Tryz.prog 154 #[(.int .u64 (IntKind.wrap .u64 x0))] w22 fun v24 w25 => (∃ (n26 : Int), v24 = (.int .i64 n26) ∧ K (.int .i64 n26) w25)))

def impl_CountLanes.ann : Ann := (.seq .l (.seq (.seq .l (.two (.seq .l .l) .l)) (.seq .l .l)))

theorem impl_CountLanes.start {x0 : Int} {w : World} {K : Value → World → Prop} (h : impl_CountLanes.vc x0 w K) : Cll Tryz.prog 91 #[(.int .i64 x0)] w K :=
  vcF_sound mixed (fn := Tryz.f91) (by kernel_rfl) (by kernel_rfl) (an := impl_CountLanes.ann) (args := [(.int .i64 x0)]) (Eq.mpr (by kernel_rfl) h)

theorem impl_CountLanes.con {x0 : Int} {r : Int} {w : World} (hp : M.impl_CountLanes_pre x0) (hr : r = M.impl_CountLanes x0)  :
    Cll Tryz.prog 91 #[(.int .i64 x0)] w (fun v_ w_ => v_ = (.int .i64 r) ∧ Ext w w_) := by
  have H := wp.impl_CountLanes.math x0 hp
  have hB := Ext.refl w
  refine impl_CountLanes.start ?_
  unfold impl_CountLanes.vc
  unfold wp.impl_CountLanes at H
  obtain ⟨r21, hr22⟩ : ∃ r_, r_ = M.impl_IsMask x0 := ⟨_, rfl⟩
  have H := H r21 hr22
  refine (impl_IsMask.con hr22 ).mono ?_
  rintro _ w24 ⟨rfl, e25⟩
  have hB := ethen hB e25
  refine ⟨r21, rfl, ?_⟩
  refine bcase_mk (fun hc31 => ?_) (fun hc31 => ?_)
  · have H := (bcase_iff.1 H).1 hc31
    obtain rfl := hr.trans H.symm
    exact ⟨rfl, hB⟩
  have H := (bcase_iff.1 H).2 hc31
  obtain ⟨hp28, H⟩ := H
  obtain ⟨r26, hr27⟩ : ∃ r_, r_ = M.math_bits_OnesCount (IntKind.wrap .u64 x0) := ⟨_, rfl⟩
  have H := H r26 hr27
  refine (math_bits_OnesCount.con hp28 hr27 ).mono ?_
  rintro _ w29 ⟨rfl, e30⟩
  have hB := ethen hB e30
  refine ⟨r26, rfl, ?_⟩
  obtain rfl := hr.trans H.symm
  exact ⟨rfl, hB⟩
def impl_CostOf_1.vc (x0_0 : Int) (A0_1 : Option Addr) (n0_1 : Nat) (c0_1 : Nat) (A0_2 : Option Addr) (n0_2 : Nat) (c0_2 : Nat) (p1 : Addr) (p2 : Addr) (w : World) (K : Value → World → Prop) : Prop :=
  newK w (.cells #[(.int .i64 x0_0), (.slice A0_1 n0_1 c0_1), (.slice A0_2 n0_2 c0_2)] 31) fun g21 w22 => ∃ (A23 : Option Addr) (n24 : Nat) (c25 : Nat), w22.cell? (((⟨g21, 0, none⟩ : Addr).add 1).add 0) = some (.slice A23 n24 c25) ∧ bcase (((n24 : Nat) : Int) == 0) (K (.tuple #[]) w22) (∃ (n26 : Int), w22.cell? ((p1.add 0).add 0) = some (.int .i64 n26) ∧ stCells (p1.add 0) [(.int .i64 (IntKind.wrap .i64 (n26 + 1)))] 0 w22 fun w27 => (∃ M28 : Nat → Prop, ∃ (n29 : Int), (¬ M28 ((p1.add 1)).block ∧ w27.cell? ((p1.add 1).add 0) = some (.int .i64 n29)) ∧ ∃ (n30 : Int), (¬ M28 ((⟨g21, 0, none⟩ : Addr)).block ∧ w27.cell? ((⟨g21, 0, none⟩ : Addr).add 0) = some (.int .i64 n30)) ∧ ∃ (A31 : Option Addr) (n32 : Nat) (c33 : Nat), (¬ M28 ((⟨g21, 0, none⟩ : Addr)).block ∧ w27.cell? ((⟨g21, 0, none⟩ : Addr).add 1) = some (.slice A31 n32 c33)) ∧ ∃ (A34 : Option Addr) (n35 : Nat) (c36 : Nat), (¬ M28 ((⟨g21, 0, none⟩ : Addr)).block ∧ w27.cell? ((⟨g21, 0, none⟩ : Addr).add 2) = some (.slice A34 n35 c36)) ∧ Cll Tryz.prog 92 #[(.agg #[(.int .i64 n30), (.slice A31 n32 c33), (.slice A34 n35 c36)])] w27.drew fun v37 w38 => (∃ (n39 : Int), v37 = (.int .i64 n39) ∧ SameBut M28 w27 w38 ∧ Cll Tryz.prog 91 #[(.int .i64 n39)] w38 fun v40 w41 => (∃ (n42 : Int), v40 = (.int .i64 n42) ∧ SameBut M28 w27 w41 ∧ stCells (p1.add 1) [(.int .i64 (IntKind.wrap .i64 (n29 + n42)))] 0 w41 fun w43 => ∃ (n44 : Int), w43.cell? ((⟨g21, 0, none⟩ : Addr).add 0) = some (.int .i64 n44) ∧ ∃ (A45 : Option Addr) (n46 : Nat) (c47 : Nat), w43.cell? ((⟨g21, 0, none⟩ : Addr).add 1) = some (.slice A45 n46 c47) ∧ ∃ (A48 : Option Addr) (n49 : Nat) (c50 : Nat), w43.cell? ((⟨g21, 0, none⟩ : Addr).add 2) = some (.slice A48 n49 c50) ∧ ∃ (A51 : Option Addr) (n52 : Nat) (c53 : Nat), w43.cell? (p2.add 0) = some (.slice A51 n52 c53) ∧ Cll Tryz.prog 93 #[(.agg #[(.int .i64 n44), (.slice A45 n46 c47), (.slice A48 n49 c50)]), (.slice A51 n52 c53)] w43 fun v54 w55 => (∃ (b56 : Bool), v54 = (.bool b56) ∧ bcase b56 (∃ (n57 : Int), w55.cell? ((p1.add 2).add 0) = some (.int .i64 n57) ∧ stCells (p1.add 2) [(.int .i64 (IntKind.wrap .i64 (n57 + 1)))] 0 w55 fun w58 => K (.tuple #[]) w58) (K (.tuple #[]) w55))))))

def impl_CostOf_1.ann : Ann := (.seq .l (.seq (.seq .l (.two .l .l)) (.seq .l (.seq .l (.seq .l (.two .l .l))))))

theorem impl_CostOf_1.start {x0_0 : Int} {A0_1 : Option Addr} {n0_1 : Nat} {c0_1 : Nat} {A0_2 : Option Addr} {n0_2 : Nat} {c0_2 : Nat} {p1 : Addr} {p2 : Addr} {w : World} {K : Value → World → Prop} (h : impl_CostOf_1.vc x0_0 A0_1 n0_1 c0_1 A0_2 n0_2 c0_2 p1 p2 w K) : Cll Tryz.prog 90 #[(.agg #[(.int .i64 x0_0), (.slice A0_1 n0_1 c0_1), (.slice A0_2 n0_2 c0_2)]), (.pointer (some p1)), (.pointer (some p2))] w K :=
  vcF_sound mixed (fn := Tryz.f90) (by kernel_rfl) (by kernel_rfl) (an := impl_CostOf_1.ann) (args := [(.agg #[(.int .i64 x0_0), (.slice A0_1 n0_1 c0_1), (.slice A0_2 n0_2 c0_2)]), (.pointer (some p1)), (.pointer (some p2))]) (Eq.mpr (by kernel_rfl) h)

theorem impl_CostOf_1.con {s0 : D.Warp} {s1 : D.Cost} {xs2 : List D.Ins} {A0_1 : Option Addr} {c0_1 : Nat} {A0_2 : Option Addr} {c0_2 : Nat} {g3_ : Nat} {g4_ : Nat} {A2_0 : Option Addr} {c2_0 : Nat} {r : D.Cost} {w : World} (hp : M.impl_CostOf_1_pre s0 s1 xs2) (hr : r = M.impl_CostOf_1 s0 s1 xs2) (R0_1 : Row el130 w A0_1 s0.Frames) (hc0_1 : s0.Frames.length ≤ c0_1) (R0_2 : Row el3 w A0_2 s0.Regs) (hc0_2 : s0.Regs.length ≤ c0_2) (O3 : Blk w g3_ 46 #[(.int .i64 s1.Steps), (.int .i64 s1.Active), (.int .i64 s1.Splits)]) (O4 : Blk w g4_ 34 #[(.slice A2_0 xs2.length c2_0)]) (R2_0 : Row el89 w A2_0 xs2) (hc2_0 : xs2.length ≤ c2_0) (DB4 : ¬ (fun k_ => k_ = g3_) g4_) (D0_1 : s0.Frames ≠ [] → ∀ g, InB A0_1 g → ¬ (fun k_ => k_ = g3_) g) (D0_2 : s0.Regs ≠ [] → ∀ g, InB A0_2 g → ¬ (fun k_ => k_ = g3_) g) (D2_0 : xs2 ≠ [] → ∀ g, InB A2_0 g → ¬ (fun k_ => k_ = g3_) g) :
    Cll Tryz.prog 90 #[(.agg #[(.int .i64 s0.Number), (.slice A0_1 s0.Frames.length c0_1), (.slice A0_2 s0.Regs.length c0_2)]), (.pointer (some (⟨g3_, 0, none⟩ : Addr))), (.pointer (some (⟨g4_, 0, none⟩ : Addr)))] w (fun v_ w_ => v_ = (.tuple #[]) ∧ Blk w_ g3_ 46 #[(.int .i64 r.Steps), (.int .i64 r.Active), (.int .i64 r.Splits)] ∧ Chg (fun k_ => k_ = g3_) w w_) := by
  have H := wp.impl_CostOf_1.math s0 s1 xs2 hp
  have hB := Chg.refl (fun k_ => k_ = g3_) w
  refine impl_CostOf_1.start ?_
  unfold impl_CostOf_1.vc
  unfold wp.impl_CostOf_1 at H
  refine newBlk (fun g6_ w21 L6 P6 e22 => ?_)
  have N3_6 := O3.ne L6
  have N4_6 := O4.ne L6
  have O3 := O3.ext e22
  have O4 := O4.ext e22
  have O6 := P6
  have L6 := Nat.le_trans hB.size L6
  have hB := hB.then e22
  refine ⟨_, _, _, (O6.at 1 rfl rfl), ?_⟩
  refine bcase_mk (fun hc46 => ?_) (fun hc46 => ?_)
  · have H := (bcase_iff.1 H).1 hc46
    obtain rfl := hr.trans H.symm
    exact ⟨rfl, O3, hB⟩
  have H := (bcase_iff.1 H).2 hc46
  refine ⟨_, (O3.at 0 rfl rfl), ?_⟩
  refine stBlk O3 (o := 0) (cs' := #[(.int .i64 (IntKind.wrap .i64 (s1.Steps + 1))), (.int .i64 s1.Active), (.int .i64 s1.Splits)]) rfl rfl (Nat.le_of_ble_eq_true rfl) rfl (fun w23 P3 e24 => ?_)
  have O4_ := O4.chg e24 (fun h_ => DB4 h_)
  have O6_ := O6.chg e24 (N3_6).symm
  have O4 := O4_
  have O6 := O6_
  have hB := hB.chgb e24 (Or.inr rfl)
  have O3 := P3
  refine ⟨(fun _ => False), ?_⟩
  refine ⟨_, ⟨(fun h_ => h_), (O3.at 1 rfl rfl)⟩, ?_⟩
  refine ⟨_, ⟨(fun h_ => h_), (O6.at 0 rfl rfl)⟩, ?_⟩
  refine ⟨_, _, _, ⟨(fun h_ => h_), (O6.at 1 rfl rfl)⟩, ?_⟩
  refine ⟨_, _, _, ⟨(fun h_ => h_), (O6.at 2 rfl rfl)⟩, ?_⟩
  have hS25 := Chg.refl (fun _ => False) w23
  have O3 := O3.ext (Ext.drew _)
  have O4 := O4.ext (Ext.drew _)
  have O6 := O6.ext (Ext.drew _)
  have hB := hB.then (Ext.drew _)
  have hS25 := hS25.then (Ext.drew _)
  obtain ⟨hp28, H⟩ := H
  obtain ⟨r26, hr27⟩ : ∃ r_, r_ = M.impl_ActiveMask s0 := ⟨_, rfl⟩
  have H := H r26 hr27
  refine (impl_ActiveMask.con hp28 hr27 (R0_1.chgS hB D0_1) hc0_1 (R0_2.chgS hB D0_2) hc0_2).mono ?_
  rintro _ w29 ⟨rfl, e30⟩
  have O3 := O3.ext e30
  have O4 := O4.ext e30
  have O6 := O6.ext e30
  have hB := hB.then e30
  have hS25 := hS25.then e30
  refine ⟨r26, rfl, ?_⟩
  refine ⟨sameBut_chg hS25, ?_⟩
  obtain ⟨hp33, H⟩ := H
  obtain ⟨r31, hr32⟩ : ∃ r_, r_ = M.impl_CountLanes r26 := ⟨_, rfl⟩
  have H := H r31 hr32
  refine (impl_CountLanes.con hp33 hr32 ).mono ?_
  rintro _ w34 ⟨rfl, e35⟩
  have O3 := O3.ext e35
  have O4 := O4.ext e35
  have O6 := O6.ext e35
  have hB := hB.then e35
  have hS25 := hS25.then e35
  refine ⟨r31, rfl, ?_⟩
  refine ⟨sameBut_chg hS25, ?_⟩
  refine stBlk O3 (o := 1) (cs' := #[(.int .i64 (IntKind.wrap .i64 (s1.Steps + 1))), (.int .i64 (IntKind.wrap .i64 (s1.Active + r31))), (.int .i64 s1.Splits)]) rfl rfl (Nat.le_of_ble_eq_true rfl) rfl (fun w36 P3 e37 => ?_)
  have O4_ := O4.chg e37 (fun h_ => DB4 h_)
  have O6_ := O6.chg e37 (N3_6).symm
  have O4 := O4_
  have O6 := O6_
  have hB := hB.chgb e37 (Or.inr rfl)
  have O3 := P3
  refine ⟨_, (O6.at 0 rfl rfl), ?_⟩
  refine ⟨_, _, _, (O6.at 1 rfl rfl), ?_⟩
  refine ⟨_, _, _, (O6.at 2 rfl rfl), ?_⟩
  refine ⟨_, _, _, (O4.at 0 rfl rfl), ?_⟩
  obtain ⟨hp40, H⟩ := H
  obtain ⟨r38, hr39⟩ : ∃ r_, r_ = M.impl_Warp_splits s0 xs2 := ⟨_, rfl⟩
  have H := H r38 hr39
  refine (impl_Warp_splits.con hp40 hr39 (R0_1.chgS hB D0_1) hc0_1 (R0_2.chgS hB D0_2) hc0_2 (R2_0.chgS hB D2_0) hc2_0).mono ?_
  rintro _ w41 ⟨rfl, e42⟩
  have O3 := O3.ext e42
  have O4 := O4.ext e42
  have O6 := O6.ext e42
  have hB := hB.then e42
  refine ⟨r38, rfl, ?_⟩
  refine bcase_mk (fun hc45 => ?_) (fun hc45 => ?_)
  · have H := (bcase_iff.1 H).1 hc45
    refine ⟨_, (O3.at 2 rfl rfl), ?_⟩
    refine stBlk O3 (o := 2) (cs' := #[(.int .i64 (IntKind.wrap .i64 (s1.Steps + 1))), (.int .i64 (IntKind.wrap .i64 (s1.Active + r31))), (.int .i64 (IntKind.wrap .i64 (s1.Splits + 1)))]) rfl rfl (Nat.le_of_ble_eq_true rfl) rfl (fun w43 P3 e44 => ?_)
    have O4_ := O4.chg e44 (fun h_ => DB4 h_)
    have O4 := O4_
    have hB := hB.chgb e44 (Or.inr rfl)
    have O3 := P3
    obtain rfl := hr.trans H.symm
    exact ⟨rfl, O3, hB⟩
  have H := (bcase_iff.1 H).2 hc45
  obtain rfl := hr.trans H.symm
  exact ⟨rfl, O3, hB⟩
def impl_visit_b.vc (A0 : Option Addr) (n0 : Nat) (c0 : Nat) (x1 : Int) (f2 : Nat) (cap2 : Array Value) (w : World) (K : Value → World → Prop) : Prop :=
  Cll Tryz.prog 27 #[(.slice A0 n0 c0), (.int .i64 x1)] w fun v21 w22 => (∃ u23 : Value, (∃ (n24 : Int), True ∧ ∃ (A25 : Option Addr) (n26 : Nat) (c27 : Nat), True ∧ ∃ (A28 : Option Addr) (n29 : Nat) (c30 : Nat), True ∧ u23 = (.agg #[(.int .i64 n24), (.slice A25 n26 c27), (.slice A28 n29 c30)]) ∧ ∃ u31 : Value, (∃ (n32 : Int), u31 = (.int .i64 n32) ∧ ∃ u33 : Value, (∃ (b34 : Bool), u33 = (.bool b34) ∧ v21 = (.tuple #[(.agg #[(.int .i64 n24), (.slice A25 n26 c27), (.slice A28 n29 c30)]), (.int .i64 n32), (.bool b34)]) ∧ newK w22 (.cells #[(.int .i64 0), (.slice none 0 0), (.slice none 0 0)] 31) fun g35 w36 => stCells (⟨g35, 0, none⟩ : Addr) [(.int .i64 n24), (.slice A25 n26 c27), (.slice A28 n29 c30)] 0 w36 fun w37 => bcase (!b34) (K (.bool false) w37) (Cll Tryz.prog 83 #[(.slice A0 n0 c0), (.int .i64 x1)] w37 fun v38 w39 => (∃ (n40 : Int), True ∧ ∃ (A41 : Option Addr) (n42 : Nat) (c43 : Nat), True ∧ ∃ (A44 : Option Addr) (n45 : Nat) (c46 : Nat), True ∧ v38 = (.agg #[(.int .i64 n40), (.slice A41 n42 c43), (.slice A44 n45 c46)]) ∧ newK w39 (.cells #[(.int .i64 0), (.slice none 0 0), (.slice none 0 0)] 31) fun g47 w48 => stCells (⟨g47, 0, none⟩ : Addr) [(.int .i64 n40), (.slice A41 n42 c43), (.slice A44 n45 c46)] 0 w48 fun w49 => LoopT (σ := Int × Unit) (fun z50 w51 next52 => bcase (decide (z50.1 < n32)) (∃ (n53 : Int), w51.cell? ((⟨g47, 0, none⟩ : Addr).add 0) = some (.int .i64 n53) ∧ ∃ (A54 : Option Addr) (n55 : Nat) (c56 : Nat), w51.cell? ((⟨g47, 0, none⟩ : Addr).add 1) = some (.slice A54 n55 c56) ∧ ∃ (A57 : Option Addr) (n58 : Nat) (c59 : Nat), w51.cell? ((⟨g47, 0, none⟩ : Addr).add 2) = some (.slice A57 n58 c59) ∧ Cll Tryz.prog f2 (#[(.agg #[(.int .i64 n53), (.slice A54 n55 c56), (.slice A57 n58 c59)])] ++ cap2) w51 fun v60 w61 => (v60 = (.tuple #[]) ∧ Cll Tryz.prog 76 #[(.pointer (some (⟨g47, 0, none⟩ : Addr))), (.slice A0 n0 c0)] w61 fun v62 w63 => (∃ (b64 : Bool), v62 = (.bool b64) ∧ next52 ((IntKind.wrap .i64 (z50.1 + 1)), ()) w63))) (∃ (n65 : Int), w51.cell? ((⟨g47, 0, none⟩ : Addr).add 0) = some (.int .i64 n65) ∧ ∃ (A66 : Option Addr) (n67 : Nat) (c68 : Nat), w51.cell? ((⟨g47, 0, none⟩ : Addr).add 1) = some (.slice A66 n67 c68) ∧ ∃ (A69 : Option Addr) (n70 : Nat) (c71 : Nat), w51.cell? ((⟨g47, 0, none⟩ : Addr).add 2) = some (.slice A69 n70 c71) ∧ Cll Tryz.prog f2 (#[(.agg #[(.int .i64 n65), (.slice A66 n67 c68), (.slice A69 n70 c71)])] ++ cap2) w51 fun v72 w73 => (v72 = (.tuple #[]) ∧ K (.bool true) w73))) (0, ()) w49))))))

def impl_visit_b.ann : Ann := (.seq .l (.seq .l (.seq (.seq .l (.two (.seq .l .l) .l)) (.seq .l (.seq (.seq .l (.one (.loop [(24, .int .i64)] (.seq .l (.seq (.two .l .l) (.seq (.one (.seq .l .l)) .l)))))) (.seq .l (.seq .l .l)))))))

theorem impl_visit_b.start {A0 : Option Addr} {n0 : Nat} {c0 : Nat} {x1 : Int} {f2 : Nat} {cap2 : Array Value} {w : World} {K : Value → World → Prop} (h : impl_visit_b.vc A0 n0 c0 x1 f2 cap2 w K) : Cll Tryz.prog 85 #[(.slice A0 n0 c0), (.int .i64 x1), (.func (.func f2) #[] cap2)] w K :=
  vcF_sound mixed (fn := Tryz.f85) (by kernel_rfl) (by kernel_rfl) (an := impl_visit_b.ann) (args := [(.slice A0 n0 c0), (.int .i64 x1), (.func (.func f2) #[] cap2)]) (Eq.mpr (by kernel_rfl) h)

theorem impl_visit_b.con {xs0 : List D.Ins} {x1 : Int} {s2c0 : D.Cost} {xs2c1 : List D.Ins} {A0 : Option Addr} {c0 : Nat} {g2_ : Nat} {g3_ : Nat} {A2c1_0 : Option Addr} {c2c1_0 : Nat} {r : Bool × D.Cost} {w : World} (hp : M.impl_visit_b_pre xs0 x1 s2c0 xs2c1) (hr : r = M.impl_visit_b xs0 x1 s2c0 xs2c1) (R0 : Row el89 w A0 xs0) (hc0 : xs0.length ≤ c0) (O2 : Blk w g2_ 46 #[(.int .i64 s2c0.Steps), (.int .i64 s2c0.Active), (.int .i64 s2c0.Splits)]) (O3 : Blk w g3_ 34 #[(.slice A2c1_0 xs2c1.length c2c1_0)]) (R2c1_0 : Row el89 w A2c1_0 xs2c1) (hc2c1_0 : xs2c1.length ≤ c2c1_0) (DB3 : ¬ (fun k_ => k_ = g2_) g3_) (D0 : xs0 ≠ [] → ∀ g, InB A0 g → ¬ (fun k_ => k_ = g2_) g) (D2c1_0 : xs2c1 ≠ [] → ∀ g, InB A2c1_0 g → ¬ (fun k_ => k_ = g2_) g) :
    Cll Tryz.prog 85 #[(.slice A0 xs0.length c0), (.int .i64 x1), (.func (.func 90) #[] #[(.pointer (some (⟨g2_, 0, none⟩ : Addr))), (.pointer (some (⟨g3_, 0, none⟩ : Addr)))])] w (fun v_ w_ => v_ = (.bool r.1) ∧ Blk w_ g2_ 46 #[(.int .i64 r.2.Steps), (.int .i64 r.2.Active), (.int .i64 r.2.Splits)] ∧ Chg (fun k_ => k_ = g2_) w w_) := by
  have H := wp.impl_visit_b.math xs0 x1 s2c0 xs2c1 hp
  have hB := Chg.refl (fun k_ => k_ = g2_) w
  refine impl_visit_b.start ?_
  unfold impl_visit_b.vc
  unfold wp.impl_visit_b at H
  obtain ⟨hp23, H⟩ := H
  obtain ⟨r21, hr22⟩ : ∃ r_, r_ = M.impl_WarpResult xs0 x1 := ⟨_, rfl⟩
  have H := H r21 hr22
  refine (impl_WarpResult.con hp23 hr22 (R0.chgS hB D0) hc0).mono ?_
  rintro _ w24 ⟨A26, c27, A28, c29, rfl, P5, P6, e25⟩
  have N5_2 := P5.apart_old O2.lt
  have N5_3 := P5.apart_old O3.lt
  have N6_2 := P6.apart_old O2.lt
  have N6_3 := P6.apart_old O3.lt
  have O2 := O2.ext e25
  have O3 := O3.ext e25
  have O5 := P5.mono hB.size
  have O6 := P6.mono hB.size
  have hB := hB.then e25
  refine ⟨(.agg #[(.int .i64 r21.1.Number), (.slice A26 r21.1.Frames.length c27), (.slice A28 r21.1.Regs.length c29)]), ?_⟩
  refine ⟨r21.1.Number, trivial, ?_⟩
  refine ⟨A26, r21.1.Frames.length, c27, trivial, ?_⟩
  refine ⟨A28, r21.1.Regs.length, c29, trivial, ?_⟩
  refine ⟨rfl, ?_⟩
  refine ⟨(.int .i64 r21.2.1), ?_⟩
  refine ⟨r21.2.1, rfl, ?_⟩
  refine ⟨(.bool r21.2.2), ?_⟩
  refine ⟨r21.2.2, rfl, ?_⟩
  refine ⟨rfl, ?_⟩
  refine newBlk (fun g7_ w30 L7 P7 e31 => ?_)
  have N2_7 := O2.ne L7
  have N3_7 := O3.ne L7
  have N5_7 := O5.apart_new L7
  have N6_7 := O6.apart_new L7
  have O2 := O2.ext e31
  have O3 := O3.ext e31
  have O5 := O5.ext e31
  have O6 := O6.ext e31
  have O7 := P7
  have L7 := Nat.le_trans hB.size L7
  have hB := hB.then e31
  refine stBlk O7 (o := 0) (cs' := #[(.int .i64 r21.1.Number), (.slice A26 r21.1.Frames.length c27), (.slice A28 r21.1.Regs.length c29)]) rfl rfl (Nat.le_of_ble_eq_true rfl) rfl (fun w32 P7 e33 => ?_)
  have O2_ := O2.chg e33 N2_7
  have O3_ := O3.chg e33 N3_7
  have O5_ := O5.chg e33 N5_7
  have O6_ := O6.chg e33 N6_7
  have O2 := O2_
  have O3 := O3_
  have O5 := O5_
  have O6 := O6_
  have hB := hB.chgb e33 (Or.inl L7)
  have O7 := P7
  refine bcase_mk (fun hc110 => ?_) (fun hc110 => ?_)
  · have H := (bcase_iff.1 H).1 hc110
    obtain rfl := hr.trans H.symm
    exact ⟨rfl, O2, hB⟩
  have H := (bcase_iff.1 H).2 hc110
  obtain ⟨hp36, H⟩ := H
  obtain ⟨r34, hr35⟩ : ∃ r_, r_ = M.impl_newWarp xs0 x1 := ⟨_, rfl⟩
  have H := H r34 hr35
  refine (impl_newWarp.con hp36 hr35 (R0.chgS hB D0) hc0).mono ?_
  rintro _ w37 ⟨A39, c40, A41, c42, rfl, P8, P9, e38⟩
  have N8_2 := P8.apart_old O2.lt
  have N8_3 := P8.apart_old O3.lt
  have N9_2 := P9.apart_old O2.lt
  have N9_3 := P9.apart_old O3.lt
  have O2 := O2.ext e38
  have O3 := O3.ext e38
  have O8 := P8.mono hB.size
  have O9 := P9.mono hB.size
  have hB := hB.then e38
  refine ⟨r34.Number, trivial, ?_⟩
  refine ⟨A39, r34.Frames.length, c40, trivial, ?_⟩
  refine ⟨A41, r34.Regs.length, c42, trivial, ?_⟩
  refine ⟨rfl, ?_⟩
  refine newBlk (fun g10_ w43 L10 P10 e44 => ?_)
  have N2_10 := O2.ne L10
  have N3_10 := O3.ne L10
  have N8_10 := O8.apart_new L10
  have N9_10 := O9.apart_new L10
  have O2 := O2.ext e44
  have O3 := O3.ext e44
  have O8 := O8.ext e44
  have O9 := O9.ext e44
  have O10 := P10
  have L10 := Nat.le_trans hB.size L10
  have hB := hB.then e44
  refine stBlk O10 (o := 0) (cs' := #[(.int .i64 r34.Number), (.slice A39 r34.Frames.length c40), (.slice A41 r34.Regs.length c42)]) rfl rfl (Nat.le_of_ble_eq_true rfl) rfl (fun w45 P10 e46 => ?_)
  have O2_ := O2.chg e46 N2_10
  have O3_ := O3.chg e46 N3_10
  have O8_ := O8.chg e46 N8_10
  have O9_ := O9.chg e46 N9_10
  have O2 := O2_
  have O3 := O3_
  have O8 := O8_
  have O9 := O9_
  have hB := hB.chgb e46 (Or.inl L10)
  have O10 := P10
  obtain ⟨J79, ⟨m108, hJ107⟩, hS80⟩ := H
  refine ⟨fun m_ z_ w_ => ∃ (i67 : Int) (i68 : Int) (i69 : Int) (i70 : Int) (i71 : Int) (xs72 : List D.Frame) (xs75 : List Int) (A73 : Option Addr) (c74 : Nat) (A76 : Option Addr) (c77 : Nat), z_ = (i67, ()) ∧ J79 m_ (i67, i68, i69, i70, i71, xs72, xs75, ()) ∧ Chg (fun k_ => k_ = g2_) w w_ ∧ Blk w_ g2_ 46 #[(.int .i64 i68), (.int .i64 i69), (.int .i64 i70)] ∧ Blk w_ g10_ 31 #[(.int .i64 i71), (.slice A73 xs72.length c74), (.slice A76 xs75.length c77)] ∧ Own el130 w_ w.heap.size A73 c74 xs72 ∧ Own el3 w_ w.heap.size A76 c77 xs75 ∧ Blk w_ g3_ 34 #[(.slice A2c1_0 xs2c1.length c2c1_0)], ⟨m108, 0, s2c0.Steps, s2c0.Active, s2c0.Splits, r34.Number, r34.Frames, r34.Regs, A39, c40, A41, c42, rfl, hJ107, hB, O2, O10, O8, O9, O3⟩, ?_⟩
  rintro m78 _ w82 ⟨i67, i68, i69, i70, i71, xs72, xs75, A73, c74, A76, c77, rfl, hJ109, hB, O2, O10, O13, O14, O3⟩
  have H := hS80 m78 _ hJ109
  clear hS80 hJ109
  try dsimp only at H ⊢
  refine bcase_mk (fun hc105 => ?_) (fun hc105 => ?_)
  · have H := (bcase_iff.1 H).1 hc105
    refine ⟨_, (O10.at 0 rfl rfl), ?_⟩
    refine ⟨_, _, _, (O10.at 1 rfl rfl), ?_⟩
    refine ⟨_, _, _, (O10.at 2 rfl rfl), ?_⟩
    obtain ⟨hp85, H⟩ := H
    obtain ⟨r83, hr84⟩ : ∃ r_, r_ = M.impl_CostOf_1 (⟨i71, xs72, xs75⟩ : D.Warp) (⟨i68, i69, i70⟩ : D.Cost) xs2c1 := ⟨_, rfl⟩
    have H := H r83 hr84
    refine (cllApp (l1 := [_]) (l2 := [_, _]) (impl_CostOf_1.con hp85 hr84 O13.row O13.le O14.row O14.le O2 O3 (R2c1_0.chgS hB D2c1_0) hc2c1_0 ((fun h_ => DB3 h_)) (fun _ => (box_inb (O13.apart_type O2 (by decide)))) (fun _ => (box_inb (O14.apart_type O2 (by decide)))) (fun hx_ => (fun g h_ hS_ => D2c1_0 hx_ g h_ hS_)))).mono ?_
    rintro _ w86 ⟨rfl, Q2, e87⟩
    have O3 := O3.chgS e87 ((fun h_ => DB3 h_))
    have O10 := O10.chgS e87 ((N2_10).symm)
    have O13 := O13.chgS e87 (box_inb (O13.apart_type O2 (by decide)))
    have O14 := O14.chgS e87 (box_inb (O14.apart_type O2 (by decide)))
    have hB := hB.chg e87 (fun g h_ => Or.inr h_)
    have O2 := Q2
    refine ⟨rfl, ?_⟩
    obtain ⟨hp90, H⟩ := H
    obtain ⟨r88, hr89⟩ : ∃ r_, r_ = M.impl_Warp_pass (⟨i71, xs72, xs75⟩ : D.Warp) xs0 := ⟨_, rfl⟩
    have H := H r88 hr89
    refine (impl_Warp_pass.con hp90 hr89 O10.plc (O13.mono (Nat.zero_le _)) (O14.mono (Nat.zero_le _)) (R0.chgS hB D0) hc0 (fun hx_ => (fun g h_ => (fun hS_ => hS_.elim ((fun g h_ hS_ => Nat.not_le.2 (R0.old hx_ g h_) (O13.low g hS_)) g h_) (fun hS_ => hS_.elim ((fun g h_ hS_ => Nat.not_le.2 (R0.old hx_ g h_) (O14.low g hS_)) g h_) ((fun g h_ hS_ => Nat.not_le.2 (R0.old hx_ g h_) (box_low L10 _ hS_)) g h_)))))).mono ?_
    rintro _ w91 ⟨A93, c94, A95, c96, rfl, Q10, Q15, Mv15, Q16, Mv16, e92⟩
    have Q10 := Q10.toBlk rfl
    have Lw15 := Mv15.low O13.low hB.size
    have Lw16 := Mv16.low O14.low hB.size
    have O2 := O2.chgS e92 (fun hS_ => hS_.elim ((O13.apart_type O2 (by decide))).inb (fun hS_ => hS_.elim ((O14.apart_type O2 (by decide))).inb (N2_10)))
    have O3 := O3.chgS e92 (fun hS_ => hS_.elim ((O13.apart_type O3 (by decide))).inb (fun hS_ => hS_.elim ((O14.apart_type O3 (by decide))).inb (N3_10)))
    have hB := hB.chg e92 (fun g => (fun hS_ => hS_.elim ((fun g h_ => Or.inl (O13.low g h_)) g) (fun hS_ => hS_.elim ((fun g h_ => Or.inl (O14.low g h_)) g) ((fun g h_ => Or.inl (h_ ▸ L10)) g))))
    have O10 := Q10
    have O15 := Q15.lift Lw15
    have O16 := Q16.lift Lw16
    refine ⟨r88.1, rfl, ?_⟩
    obtain ⟨m97, hm98, hJ99⟩ := H
    exact ⟨m97, hm98, (IntKind.wrap .i64 (i67 + 1)), r83.Steps, r83.Active, r83.Splits, r88.2.Number, r88.2.Frames, r88.2.Regs, A93, c94, A95, c96, rfl, hJ99, hB, O2, O10, O15, O16, O3⟩
  have H := (bcase_iff.1 H).2 hc105
  refine ⟨_, (O10.at 0 rfl rfl), ?_⟩
  refine ⟨_, _, _, (O10.at 1 rfl rfl), ?_⟩
  refine ⟨_, _, _, (O10.at 2 rfl rfl), ?_⟩
  obtain ⟨hp102, H⟩ := H
  obtain ⟨r100, hr101⟩ : ∃ r_, r_ = M.impl_CostOf_1 (⟨i71, xs72, xs75⟩ : D.Warp) (⟨i68, i69, i70⟩ : D.Cost) xs2c1 := ⟨_, rfl⟩
  have H := H r100 hr101
  refine (cllApp (l1 := [_]) (l2 := [_, _]) (impl_CostOf_1.con hp102 hr101 O13.row O13.le O14.row O14.le O2 O3 (R2c1_0.chgS hB D2c1_0) hc2c1_0 ((fun h_ => DB3 h_)) (fun _ => (box_inb (O13.apart_type O2 (by decide)))) (fun _ => (box_inb (O14.apart_type O2 (by decide)))) (fun hx_ => (fun g h_ hS_ => D2c1_0 hx_ g h_ hS_)))).mono ?_
  rintro _ w103 ⟨rfl, Q2, e104⟩
  have O3 := O3.chgS e104 ((fun h_ => DB3 h_))
  have O10 := O10.chgS e104 ((N2_10).symm)
  have O13 := O13.chgS e104 (box_inb (O13.apart_type O2 (by decide)))
  have O14 := O14.chgS e104 (box_inb (O14.apart_type O2 (by decide)))
  have hB := hB.chg e104 (fun g h_ => Or.inr h_)
  have O2 := Q2
  refine ⟨rfl, ?_⟩
  obtain rfl := hr.trans H.symm
  exact ⟨rfl, O2, hB⟩
def impl_CostOf.vc (A0 : Option Addr) (n0 : Nat) (c0 : Nat) (x1 : Int) (w : World) (K : Value → World → Prop) : Prop :=
  newK w (.cells #[(.slice A0 n0 c0)] 34) fun g21 w22 => newK w22 (.cells #[(.int .i64 0), (.int .i64 0), (.int .i64 0)] 46) fun g23 w24 => newK w24 (.cells #[(.int .i64 0), (.int .i64 0), (.int .i64 0)] 46) fun g25 w26 => stCells (⟨g25, 0, none⟩ : Addr) [(.int .i64 0), (.int .i64 0), (.int .i64 0)] 0 w26 fun w27 => ∃ (A28 : Option Addr) (n29 : Nat) (c30 : Nat), w27.cell? ((⟨g21, 0, none⟩ : Addr).add 0) = some (.slice A28 n29 c30) ∧ Cll Tryz.prog 85 #[(.slice A28 n29 c30), (.int .i64 x1), (.func (.func 90) #[] #[(.pointer (some (⟨g25, 0, none⟩ : Addr))), (.pointer (some (⟨g21, 0, none⟩ : Addr)))])] w27 fun v31 w32 => (∃ (b33 : Bool), v31 = (.bool b33) ∧ bcase (!b33) (stCells (⟨g23, 0, none⟩ : Addr) [(.int .i64 0), (.int .i64 0), (.int .i64 0)] 0 w32 fun w34 => ∃ (n35 : Int), w34.cell? ((⟨g23, 0, none⟩ : Addr).add 0) = some (.int .i64 n35) ∧ ∃ (n36 : Int), w34.cell? ((⟨g23, 0, none⟩ : Addr).add 1) = some (.int .i64 n36) ∧ ∃ (n37 : Int), w34.cell? ((⟨g23, 0, none⟩ : Addr).add 2) = some (.int .i64 n37) ∧ K (.tuple #[(.agg #[(.int .i64 n35), (.int .i64 n36), (.int .i64 n37)]), (.bool false)]) w34) (∃ (n38 : Int), w32.cell? ((⟨g25, 0, none⟩ : Addr).add 0) = some (.int .i64 n38) ∧ ∃ (n39 : Int), w32.cell? ((⟨g25, 0, none⟩ : Addr).add 1) = some (.int .i64 n39) ∧ ∃ (n40 : Int), w32.cell? ((⟨g25, 0, none⟩ : Addr).add 2) = some (.int .i64 n40) ∧ stCells (⟨g23, 0, none⟩ : Addr) [(.int .i64 n38), (.int .i64 n39), (.int .i64 n40)] 0 w32 fun w41 => ∃ (n42 : Int), w41.cell? ((⟨g23, 0, none⟩ : Addr).add 0) = some (.int .i64 n42) ∧ ∃ (n43 : Int), w41.cell? ((⟨g23, 0, none⟩ : Addr).add 1) = some (.int .i64 n43) ∧ ∃ (n44 : Int), w41.cell? ((⟨g23, 0, none⟩ : Addr).add 2) = some (.int .i64 n44) ∧ K (.tuple #[(.agg #[(.int .i64 n42), (.int .i64 n43), (.int .i64 n44)]), (.bool true)]) w41))

def impl_CostOf.ann : Ann := (.seq .l (.seq .l (.seq .l (.seq (.seq .l (.two (.seq .l .l) .l)) (.seq .l .l)))))

theorem impl_CostOf.start {A0 : Option Addr} {n0 : Nat} {c0 : Nat} {x1 : Int} {w : World} {K : Value → World → Prop} (h : impl_CostOf.vc A0 n0 c0 x1 w K) : Cll Tryz.prog 31 #[(.slice A0 n0 c0), (.int .i64 x1)] w K :=
  vcF_sound mixed (fn := Tryz.f31) (by kernel_rfl) (by kernel_rfl) (an := impl_CostOf.ann) (args := [(.slice A0 n0 c0), (.int .i64 x1)]) (Eq.mpr (by kernel_rfl) h)

theorem impl_CostOf.con {xs0 : List D.Ins} {A0 : Option Addr} {c0 : Nat} {x1 : Int} {r : D.Cost × Bool} {w : World} (hp : M.impl_CostOf_pre xs0 x1) (hr : r = M.impl_CostOf xs0 x1) (R0 : Row el89 w A0 xs0) (hc0 : xs0.length ≤ c0) :
    Cll Tryz.prog 31 #[(.slice A0 xs0.length c0), (.int .i64 x1)] w (fun v_ w_ => v_ = (.tuple #[(.agg #[(.int .i64 r.1.Steps), (.int .i64 r.1.Active), (.int .i64 r.1.Splits)]), (.bool r.2)]) ∧ Ext w w_) := by
  have H := wp.impl_CostOf.math xs0 x1 hp
  have hB := Ext.refl w
  refine impl_CostOf.start ?_
  unfold impl_CostOf.vc
  unfold wp.impl_CostOf at H
  refine newBlk (fun g2_ w21 L2 P2 e22 => ?_)
  have O2 := P2
  have L2 := Nat.le_trans hB.size L2
  have hB := ethen hB e22
  refine newBlk (fun g3_ w23 L3 P3 e24 => ?_)
  have N2_3 := O2.ne L3
  have O2 := O2.ext e24
  have O3 := P3
  have L3 := Nat.le_trans hB.size L3
  have hB := ethen hB e24
  refine newBlk (fun g4_ w25 L4 P4 e26 => ?_)
  have N2_4 := O2.ne L4
  have N3_4 := O3.ne L4
  have O2 := O2.ext e26
  have O3 := O3.ext e26
  have O4 := P4
  have L4 := Nat.le_trans hB.size L4
  have hB := ethen hB e26
  refine stBlk O4 (o := 0) (cs' := #[(.int .i64 0), (.int .i64 0), (.int .i64 0)]) rfl rfl (Nat.le_of_ble_eq_true rfl) rfl (fun w27 P4 e28 => ?_)
  have O2_ := O2.chg e28 N2_4
  have O3_ := O3.chg e28 N3_4
  have O2 := O2_
  have O3 := O3_
  have hB := echg hB e28 L4
  have O4 := P4
  refine ⟨_, _, _, (O2.at 0 rfl rfl), ?_⟩
  obtain ⟨hp31, H⟩ := H
  obtain ⟨r29, hr30⟩ : ∃ r_, r_ = M.impl_visit_b xs0 x1 (⟨0, 0, 0⟩ : D.Cost) xs0 := ⟨_, rfl⟩
  have H := H r29 hr30
  refine (impl_visit_b.con hp31 hr30 (R0.ext hB) hc0 O4 O2 (R0.ext hB) hc0 (N2_4) (fun hx_ => (fun g h_ hS_ => Nat.not_le.2 (R0.old hx_ g h_) (box_low L4 _ hS_))) (fun hx_ => (fun g h_ hS_ => Nat.not_le.2 (R0.old hx_ g h_) (box_low L4 _ hS_)))).mono ?_
  rintro _ w32 ⟨rfl, Q4, e33⟩
  have O2 := O2.chgS e33 (N2_4)
  have O3 := O3.chgS e33 (N3_4)
  have hB := Chg.ext hB e33 (box_low L4)
  have O4 := Q4
  refine ⟨r29.1, rfl, ?_⟩
  refine bcase_mk (fun hc38 => ?_) (fun hc38 => ?_)
  · have H := (bcase_iff.1 H).1 hc38
    refine stBlk O3 (o := 0) (cs' := #[(.int .i64 0), (.int .i64 0), (.int .i64 0)]) rfl rfl (Nat.le_of_ble_eq_true rfl) rfl (fun w34 P3 e35 => ?_)
    have O4_ := O4.chg e35 (N3_4).symm
    have O4 := O4_
    have hB := echg hB e35 L3
    have O3 := P3
    refine ⟨_, (O3.at 0 rfl rfl), ?_⟩
    refine ⟨_, (O3.at 1 rfl rfl), ?_⟩
    refine ⟨_, (O3.at 2 rfl rfl), ?_⟩
    obtain rfl := hr.trans H.symm
    exact ⟨rfl, hB⟩
  have H := (bcase_iff.1 H).2 hc38
  refine ⟨_, (O4.at 0 rfl rfl), ?_⟩
  refine ⟨_, (O4.at 1 rfl rfl), ?_⟩
  refine ⟨_, (O4.at 2 rfl rfl), ?_⟩
  refine stBlk O3 (o := 0) (cs' := #[(.int .i64 r29.2.Steps), (.int .i64 r29.2.Active), (.int .i64 r29.2.Splits)]) rfl rfl (Nat.le_of_ble_eq_true rfl) rfl (fun w36 P3 e37 => ?_)
  have O4_ := O4.chg e37 (N3_4).symm
  have O4 := O4_
  have hB := echg hB e37 L3
  have O3 := P3
  refine ⟨_, (O3.at 0 rfl rfl), ?_⟩
  refine ⟨_, (O3.at 1 rfl rfl), ?_⟩
  refine ⟨_, (O3.at 2 rfl rfl), ?_⟩
  obtain rfl := hr.trans H.symm
  exact ⟨rfl, hB⟩
def spec_CanPredicate.vc (A0 : Option Addr) (n0 : Nat) (c0 : Nat) (x1 : Int) (w : World) (K : Value → World → Prop) : Prop :=
  Cll Tryz.prog 65 #[(.slice A0 n0 c0)] w fun v22 w23 => (∃ (b24 : Bool), v22 = (.bool b24) ∧ bcase (!b24) (K (.bool false) w23) (Cll Tryz.prog 67 #[(.int .i64 x1), (.int .i64 0), (.int .i64 (IntKind.wrap .i64 (((n0 : Nat) : Int) - 2)))] w23 fun v25 w26 => (∃ (b27 : Bool), v25 = (.bool b27) ∧ bcase (!b27) (K (.bool false) w26) (((0 : Int) ≤ x1 ∧ x1 < ((n0 : Nat) : Int) ∧ ∃ a28 : Addr, A0 = some a28 ∧ ∃ (n29 : Int), w26.cell? ((a28.add ((x1.toNat) * 4)).add 0) = some (.int .i64 n29) ∧ ∃ (n30 : Int), w26.cell? ((a28.add ((x1.toNat) * 4)).add 1) = some (.int .i64 n30) ∧ ∃ (n31 : Int), w26.cell? ((a28.add ((x1.toNat) * 4)).add 2) = some (.int .i64 n31) ∧ ∃ (n32 : Int), w26.cell? ((a28.add ((x1.toNat) * 4)).add 3) = some (.int .i64 n32) ∧ newK w26 (.cells #[(.int .i64 0), (.int .i64 0), (.int .i64 0), (.int .i64 0)] 89) fun g33 w34 => stCells (⟨g33, 0, none⟩ : Addr) [(.int .i64 n29), (.int .i64 n30), (.int .i64 n31), (.int .i64 n32)] 0 w34 fun w35 => ((0 : Int) ≤ (IntKind.wrap .i64 (x1 + 1)) ∧ (IntKind.wrap .i64 (x1 + 1)) < ((n0 : Nat) : Int) ∧ ∃ a36 : Addr, A0 = some a36 ∧ ∃ (n37 : Int), w35.cell? ((a36.add (((IntKind.wrap .i64 (x1 + 1)).toNat) * 4)).add 0) = some (.int .i64 n37) ∧ ∃ (n38 : Int), w35.cell? ((a36.add (((IntKind.wrap .i64 (x1 + 1)).toNat) * 4)).add 1) = some (.int .i64 n38) ∧ ∃ (n39 : Int), w35.cell? ((a36.add (((IntKind.wrap .i64 (x1 + 1)).toNat) * 4)).add 2) = some (.int .i64 n39) ∧ ∃ (n40 : Int), w35.cell? ((a36.add (((IntKind.wrap .i64 (x1 + 1)).toNat) * 4)).add 3) = some (.int .i64 n40) ∧ newK w35 (.cells #[(.int .i64 0), (.int .i64 0), (.int .i64 0), (.int .i64 0)] 89) fun g41 w42 => stCells (⟨g41, 0, none⟩ : Addr) [(.int .i64 n37), (.int .i64 n38), (.int .i64 n39), (.int .i64 n40)] 0 w42 fun w43 => ∃ (n45 : Int), w43.cell? (((⟨g33, 0, none⟩ : Addr).add 0).add 0) = some (.int .i64 n45) ∧ bcase (n45 != 10) (K (.bool false) w43) (∃ (n46 : Int), w43.cell? (((⟨g33, 0, none⟩ : Addr).add 2).add 0) = some (.int .i64 n46) ∧ bcase (n46 != (IntKind.wrap .i64 (x1 + 2))) (K (.bool false) w43) (∃ (n47 : Int), w43.cell? (((⟨g41, 0, none⟩ : Addr).add 0).add 0) = some (.int .i64 n47) ∧ bcase (n47 != 2) (K (.bool false) w43) (∃ (n48 : Int), w43.cell? (((⟨g41, 0, none⟩ : Addr).add 1).add 0) = some (.int .i64 n48) ∧ ∃ (n49 : Int), w43.cell? (((⟨g33, 0, none⟩ : Addr).add 1).add 0) = some (.int .i64 n49) ∧ bcase (n48 == n49) (K (.bool false) w43) (LoopT (σ := Int × Unit) (fun z50 w51 next52 => bcase (decide (z50.1 < ((n0 : Nat) : Int))) (((0 : Int) ≤ z50.1 ∧ z50.1 < ((n0 : Nat) : Int) ∧ ∃ a53 : Addr, A0 = some a53 ∧ ∃ (n54 : Int), w51.cell? (((a53.add ((z50.1.toNat) * 4)).add 0).add 0) = some (.int .i64 n54) ∧ bcase (n54 == 10) (((0 : Int) ≤ z50.1 ∧ z50.1 < ((n0 : Nat) : Int) ∧ ∃ a55 : Addr, A0 = some a55 ∧ ∃ (n56 : Int), w51.cell? (((a55.add ((z50.1.toNat) * 4)).add 2).add 0) = some (.int .i64 n56) ∧ bcase (n56 == (IntKind.wrap .i64 (x1 + 1))) (K (.bool false) w51) (next52 ((IntKind.wrap .i64 (z50.1 + 1)), ()) w51))) (((0 : Int) ≤ z50.1 ∧ z50.1 < ((n0 : Nat) : Int) ∧ ∃ a57 : Addr, A0 = some a57 ∧ ∃ (n58 : Int), w51.cell? (((a57.add ((z50.1.toNat) * 4)).add 0).add 0) = some (.int .i64 n58) ∧ bcase (n58 == 11) (((0 : Int) ≤ z50.1 ∧ z50.1 < ((n0 : Nat) : Int) ∧ ∃ a59 : Addr, A0 = some a59 ∧ ∃ (n60 : Int), w51.cell? (((a59.add ((z50.1.toNat) * 4)).add 2).add 0) = some (.int .i64 n60) ∧ bcase (n60 == (IntKind.wrap .i64 (x1 + 1))) (K (.bool false) w51) (next52 ((IntKind.wrap .i64 (z50.1 + 1)), ()) w51))) (next52 ((IntKind.wrap .i64 (z50.1 + 1)), ()) w51))))) (K (.bool true) w51)) (0, ()) w43))))))))))

def spec_CanPredicate.ann : Ann := (.seq .l (.seq (.seq .l (.two (.seq .l .l) .l)) (.seq .l (.seq .l (.seq (.seq .l (.two (.seq .l .l) .l)) (.seq (.seq .l (.one (.loop [(7, .int .i64)] (.seq (.seq .l (.two .l .l)) (.seq (.one (.seq .l (.two (.seq .l .l) .l))) .l))))) (.seq .l .l)))))))

theorem spec_CanPredicate.start {A0 : Option Addr} {n0 : Nat} {c0 : Nat} {x1 : Int} {w : World} {K : Value → World → Prop} (h : spec_CanPredicate.vc A0 n0 c0 x1 w K) : Cll Tryz.prog 211 #[(.slice A0 n0 c0), (.int .i64 x1)] w K :=
  vcF_sound mixed (fn := Tryz.f211) (by kernel_rfl) (by kernel_rfl) (an := spec_CanPredicate.ann) (args := [(.slice A0 n0 c0), (.int .i64 x1)]) (Eq.mpr (by kernel_rfl) h)

theorem spec_CanPredicate.con {xs0 : List D.Ins} {A0 : Option Addr} {c0 : Nat} {x1 : Int} {r : Bool} {w : World} (hp : M.spec_CanPredicate_pre xs0 x1) (hr : r = M.spec_CanPredicate xs0 x1) (R0 : Row el89 w A0 xs0) (hc0 : xs0.length ≤ c0) :
    Cll Tryz.prog 211 #[(.slice A0 xs0.length c0), (.int .i64 x1)] w (fun v_ w_ => v_ = (.bool r) ∧ Ext w w_) := by
  have H := wp.spec_CanPredicate.math xs0 x1 hp
  have hB := Ext.refl w
  refine spec_CanPredicate.start ?_
  unfold spec_CanPredicate.vc
  unfold wp.spec_CanPredicate at H
  obtain ⟨hp23, H⟩ := H
  obtain ⟨r21, hr22⟩ : ∃ r_, r_ = M.spec_IsQuiet xs0 := ⟨_, rfl⟩
  have H := H r21 hr22
  refine (spec_IsQuiet.con hp23 hr22 (R0.ext hB) hc0).mono ?_
  rintro _ w24 ⟨rfl, e25⟩
  have hB := ethen hB e25
  refine ⟨r21, rfl, ?_⟩
  refine bcase_mk (fun hc98 => ?_) (fun hc98 => ?_)
  · have H := (bcase_iff.1 H).1 hc98
    obtain rfl := hr.trans H.symm
    exact ⟨rfl, hB⟩
  have H := (bcase_iff.1 H).2 hc98
  obtain ⟨r26, hr27⟩ : ∃ r_, r_ = M.spec_l01In x1 0 (IntKind.wrap .i64 (((xs0.length : Nat) : Int) - 2)) := ⟨_, rfl⟩
  have H := H r26 hr27
  refine (spec_l01In.con hr27 ).mono ?_
  rintro _ w29 ⟨rfl, e30⟩
  have hB := ethen hB e30
  refine ⟨r26, rfl, ?_⟩
  refine bcase_mk (fun hc97 => ?_) (fun hc97 => ?_)
  · have H := (bcase_iff.1 H).1 hc97
    obtain rfl := hr.trans H.symm
    exact ⟨rfl, hB⟩
  have H := (bcase_iff.1 H).2 hc97
  obtain ⟨⟨h0_34, h1_35⟩, H⟩ := H
  obtain ⟨a32, ha33, hat31⟩ := Row.at (R0.ext hB) h0_34 h1_35
  refine ⟨h0_34, h1_35, a32, ha33, ?_⟩
  refine ⟨_, (hat31 0 _ rfl), ?_⟩
  refine ⟨_, (hat31 1 _ rfl), ?_⟩
  refine ⟨_, (hat31 2 _ rfl), ?_⟩
  refine ⟨_, (hat31 3 _ rfl), ?_⟩
  refine newBlk (fun g2_ w36 L2 P2 e37 => ?_)
  have O2 := P2
  have L2 := Nat.le_trans hB.size L2
  have hB := ethen hB e37
  refine stBlk O2 (o := 0) (cs' := #[(.int .i64 ((rd xs0 x1).Op)), (.int .i64 ((rd xs0 x1).A)), (.int .i64 ((rd xs0 x1).B)), (.int .i64 ((rd xs0 x1).C))]) rfl rfl (Nat.le_of_ble_eq_true rfl) rfl (fun w38 P2 e39 => ?_)
  have hB := echg hB e39 L2
  have O2 := P2
  obtain ⟨⟨h0_43, h1_44⟩, H⟩ := H
  obtain ⟨a41, ha42, hat40⟩ := Row.at (R0.ext hB) h0_43 h1_44
  refine ⟨h0_43, h1_44, a41, ha42, ?_⟩
  refine ⟨_, (hat40 0 _ rfl), ?_⟩
  refine ⟨_, (hat40 1 _ rfl), ?_⟩
  refine ⟨_, (hat40 2 _ rfl), ?_⟩
  refine ⟨_, (hat40 3 _ rfl), ?_⟩
  refine newBlk (fun g3_ w45 L3 P3 e46 => ?_)
  have N2_3 := O2.ne L3
  have O2 := O2.ext e46
  have O3 := P3
  have L3 := Nat.le_trans hB.size L3
  have hB := ethen hB e46
  refine stBlk O3 (o := 0) (cs' := #[(.int .i64 ((rd xs0 (IntKind.wrap .i64 (x1 + 1))).Op)), (.int .i64 ((rd xs0 (IntKind.wrap .i64 (x1 + 1))).A)), (.int .i64 ((rd xs0 (IntKind.wrap .i64 (x1 + 1))).B)), (.int .i64 ((rd xs0 (IntKind.wrap .i64 (x1 + 1))).C))]) rfl rfl (Nat.le_of_ble_eq_true rfl) rfl (fun w47 P3 e48 => ?_)
  have O2_ := O2.chg e48 N2_3
  have O2 := O2_
  have hB := echg hB e48 L3
  have O3 := P3
  refine ⟨_, (O2.at 0 rfl rfl), ?_⟩
  refine bcase_mk (fun hc96 => ?_) (fun hc96 => ?_)
  · have H := (bcase_iff.1 H).1 hc96
    obtain rfl := hr.trans H.symm
    exact ⟨rfl, hB⟩
  have H := (bcase_iff.1 H).2 hc96
  refine ⟨_, (O2.at 2 rfl rfl), ?_⟩
  refine bcase_mk (fun hc95 => ?_) (fun hc95 => ?_)
  · have H := (bcase_iff.1 H).1 hc95
    obtain rfl := hr.trans H.symm
    exact ⟨rfl, hB⟩
  have H := (bcase_iff.1 H).2 hc95
  refine ⟨_, (O3.at 0 rfl rfl), ?_⟩
  refine bcase_mk (fun hc94 => ?_) (fun hc94 => ?_)
  · have H := (bcase_iff.1 H).1 hc94
    obtain rfl := hr.trans H.symm
    exact ⟨rfl, hB⟩
  have H := (bcase_iff.1 H).2 hc94
  refine ⟨_, (O3.at 1 rfl rfl), ?_⟩
  refine ⟨_, (O2.at 1 rfl rfl), ?_⟩
  refine bcase_mk (fun hc93 => ?_) (fun hc93 => ?_)
  · have H := (bcase_iff.1 H).1 hc93
    obtain rfl := hr.trans H.symm
    exact ⟨rfl, hB⟩
  have H := (bcase_iff.1 H).2 hc93
  obtain ⟨J51, ⟨m91, hJ90⟩, hS52⟩ := H
  refine ⟨fun m_ z_ w_ => ∃ (i49 : Int), z_ = (i49, ()) ∧ J51 m_ (i49, ()) ∧ Ext w w_, ⟨m91, 0, rfl, hJ90, hB⟩, ?_⟩
  rintro m50 _ w54 ⟨i49, rfl, hJ92, hB⟩
  have H := hS52 m50 _ hJ92
  clear hS52 hJ92
  try dsimp only at H ⊢
  refine bcase_mk (fun hc88 => ?_) (fun hc88 => ?_)
  · have H := (bcase_iff.1 H).1 hc88
    obtain ⟨⟨h0_58, h1_59⟩, H⟩ := H
    obtain ⟨a56, ha57, hat55⟩ := Row.at (R0.ext hB) h0_58 h1_59
    refine ⟨h0_58, h1_59, a56, ha57, ?_⟩
    refine ⟨_, (hat55 0 _ rfl), ?_⟩
    refine bcase_mk (fun hc87 => ?_) (fun hc87 => ?_)
    · have H := (bcase_iff.1 H).1 hc87
      obtain ⟨⟨h0_63, h1_64⟩, H⟩ := H
      obtain ⟨a61, ha62, hat60⟩ := Row.at (R0.ext hB) h0_63 h1_64
      refine ⟨h0_63, h1_64, a61, ha62, ?_⟩
      refine ⟨_, (hat60 2 _ rfl), ?_⟩
      refine bcase_mk (fun hc68 => ?_) (fun hc68 => ?_)
      · have H := (bcase_iff.1 H).1 hc68
        obtain rfl := hr.trans H.symm
        exact ⟨rfl, hB⟩
      have H := (bcase_iff.1 H).2 hc68
      obtain ⟨m65, hm66, hJ67⟩ := H
      exact ⟨m65, hm66, (IntKind.wrap .i64 (i49 + 1)), rfl, hJ67, hB⟩
    have H := (bcase_iff.1 H).2 hc87
    obtain ⟨⟨h0_72, h1_73⟩, H⟩ := H
    obtain ⟨a70, ha71, hat69⟩ := Row.at (R0.ext hB) h0_72 h1_73
    refine ⟨h0_72, h1_73, a70, ha71, ?_⟩
    refine ⟨_, (hat69 0 _ rfl), ?_⟩
    refine bcase_mk (fun hc86 => ?_) (fun hc86 => ?_)
    · have H := (bcase_iff.1 H).1 hc86
      obtain ⟨⟨h0_77, h1_78⟩, H⟩ := H
      obtain ⟨a75, ha76, hat74⟩ := Row.at (R0.ext hB) h0_77 h1_78
      refine ⟨h0_77, h1_78, a75, ha76, ?_⟩
      refine ⟨_, (hat74 2 _ rfl), ?_⟩
      refine bcase_mk (fun hc82 => ?_) (fun hc82 => ?_)
      · have H := (bcase_iff.1 H).1 hc82
        obtain rfl := hr.trans H.symm
        exact ⟨rfl, hB⟩
      have H := (bcase_iff.1 H).2 hc82
      obtain ⟨m79, hm80, hJ81⟩ := H
      exact ⟨m79, hm80, (IntKind.wrap .i64 (i49 + 1)), rfl, hJ81, hB⟩
    have H := (bcase_iff.1 H).2 hc86
    obtain ⟨m83, hm84, hJ85⟩ := H
    exact ⟨m83, hm84, (IntKind.wrap .i64 (i49 + 1)), rfl, hJ85, hB⟩
  have H := (bcase_iff.1 H).2 hc88
  obtain rfl := hr.trans H.symm
  exact ⟨rfl, hB⟩
def spec_Predicate.vc (A0 : Option Addr) (n0 : Nat) (c0 : Nat) (x1 : Int) (w : World) (K : Value → World → Prop) : Prop :=
  Run Tryz.prog (Instr.buildSlice 34 0 #[]) w fun v21 w22 => ∃ (A23 : Option Addr) (n24 c25 : Nat), v21 = .slice A23 n24 c25 ∧ Run Tryz.prog (Builtin.append_ #[34, 34] 34 #[(.slice A23 n24 c25), (.slice A0 n0 c0)]) w22 fun v26 w27 => ∃ (A28 : Option Addr) (n29 c30 : Nat), v26 = .slice A28 n29 c30 ∧ Cll Tryz.prog 211 #[(.slice A0 n0 c0), (.int .i64 x1)] w27 fun v31 w32 => (∃ (b33 : Bool), v31 = (.bool b33) ∧ bcase (!b33) (K (.tuple #[(.slice A28 n29 c30), (.bool false)]) w32) (((0 : Int) ≤ (IntKind.wrap .i64 (x1 + 1)) ∧ (IntKind.wrap .i64 (x1 + 1)) < ((n0 : Nat) : Int) ∧ ∃ a34 : Addr, A0 = some a34 ∧ ∃ (n35 : Int), w32.cell? ((a34.add (((IntKind.wrap .i64 (x1 + 1)).toNat) * 4)).add 0) = some (.int .i64 n35) ∧ ∃ (n36 : Int), w32.cell? ((a34.add (((IntKind.wrap .i64 (x1 + 1)).toNat) * 4)).add 1) = some (.int .i64 n36) ∧ ∃ (n37 : Int), w32.cell? ((a34.add (((IntKind.wrap .i64 (x1 + 1)).toNat) * 4)).add 2) = some (.int .i64 n37) ∧ ∃ (n38 : Int), w32.cell? ((a34.add (((IntKind.wrap .i64 (x1 + 1)).toNat) * 4)).add 3) = some (.int .i64 n38) ∧ newK w32 (.cells #[(.int .i64 0), (.int .i64 0), (.int .i64 0), (.int .i64 0)] 89) fun g39 w40 => stCells (⟨g39, 0, none⟩ : Addr) [(.int .i64 n35), (.int .i64 n36), (.int .i64 n37), (.int .i64 n38)] 0 w40 fun w41 => ((0 : Int) ≤ x1 ∧ x1 < ((n29 : Nat) : Int) ∧ ∃ a42 : Addr, A28 = some a42 ∧ stCells (a42.add ((x1.toNat) * 4)) [(.int .i64 0), (.int .i64 0), (.int .i64 0), (.int .i64 0)] 0 w41 fun w43 => (∃ M44 : Nat → Prop, ∃ (n45 : Int), (¬ M44 (((⟨g39, 0, none⟩ : Addr).add 1)).block ∧ w43.cell? (((⟨g39, 0, none⟩ : Addr).add 1).add 0) = some (.int .i64 n45)) ∧ ∃ (n46 : Int), (¬ M44 (((⟨g39, 0, none⟩ : Addr).add 2)).block ∧ w43.cell? (((⟨g39, 0, none⟩ : Addr).add 2).add 0) = some (.int .i64 n46)) ∧ ((0 : Int) ≤ x1 ∧ x1 < ((n0 : Nat) : Int) ∧ ∃ a47 : Addr, A0 = some a47 ∧ ∃ (n48 : Int), (¬ M44 (((a47.add ((x1.toNat) * 4)).add 1)).block ∧ w43.cell? (((a47.add ((x1.toNat) * 4)).add 1).add 0) = some (.int .i64 n48)) ∧ ((0 : Int) ≤ (IntKind.wrap .i64 (x1 + 1)) ∧ (IntKind.wrap .i64 (x1 + 1)) < ((n29 : Nat) : Int) ∧ ∃ a49 : Addr, A28 = some a49 ∧ stCells (a49.add (((IntKind.wrap .i64 (x1 + 1)).toNat) * 4)) [(.int .i64 9), (.int .i64 n45), (.int .i64 n46), (.int .i64 n48)] 0 w43.drew fun w50 => K (.tuple #[(.slice A28 n29 c30), (.bool true)]) w50)))))))

def spec_Predicate.ann : Ann := (.seq .l (.seq .l (.seq (.seq .l (.two (.seq .l .l) .l)) (.seq .l (.seq .l (.seq .l (.seq .l .l)))))))

theorem spec_Predicate.start {A0 : Option Addr} {n0 : Nat} {c0 : Nat} {x1 : Int} {w : World} {K : Value → World → Prop} (h : spec_Predicate.vc A0 n0 c0 x1 w K) : Cll Tryz.prog 159 #[(.slice A0 n0 c0), (.int .i64 x1)] w K :=
  vcF_sound mixed (fn := Tryz.f159) (by kernel_rfl) (by kernel_rfl) (an := spec_Predicate.ann) (args := [(.slice A0 n0 c0), (.int .i64 x1)]) (Eq.mpr (by kernel_rfl) h)

theorem spec_Predicate.con {xs0 : List D.Ins} {A0 : Option Addr} {c0 : Nat} {x1 : Int} {r : (List D.Ins) × Bool} {w : World} (hp : M.spec_Predicate_pre xs0 x1) (hr : r = M.spec_Predicate xs0 x1) (R0 : Row el89 w A0 xs0) (hc0 : xs0.length ≤ c0) :
    Cll Tryz.prog 159 #[(.slice A0 xs0.length c0), (.int .i64 x1)] w (fun v_ w_ => ∃ (A0_ : Option Addr) (c0_ : Nat), v_ = (.tuple #[(.slice A0_ r.1.length c0_), (.bool r.2)]) ∧ Own el89 w_ w.heap.size A0_ c0_ r.1 ∧ Ext w w_) := by
  have H := wp.spec_Predicate.math xs0 x1 hp
  have hB := Ext.refl w
  refine spec_Predicate.start ?_
  unfold spec_Predicate.vc
  unfold wp.spec_Predicate at H
  refine buildOwn el89 ([] : List D.Ins) (fun _ => by kernel_rfl) rfl (fun A21 w22 P2 e23 => ?_)
  have O2 := P2.mono hB.size
  have hB := ethen hB e23
  obtain ⟨hl28, H⟩ := H
  refine appOwn slt34 slt34.under O2 (R0.ext hB) hB.size (by first | rfl | omega | (simp; done) | (simp; omega)) rfl hl28 (fun A24 c25 w26 P2 e27 => ?_)
  have hB := eapp hB e27 O2
  have O2 := P2
  obtain ⟨hp31, H⟩ := H
  obtain ⟨r29, hr30⟩ : ∃ r_, r_ = M.spec_CanPredicate xs0 x1 := ⟨_, rfl⟩
  have H := H r29 hr30
  refine (spec_CanPredicate.con hp31 hr30 (R0.ext hB) hc0).mono ?_
  rintro _ w32 ⟨rfl, e33⟩
  have O2 := O2.ext e33
  have hB := ethen hB e33
  refine ⟨r29, rfl, ?_⟩
  refine bcase_mk (fun hc65 => ?_) (fun hc65 => ?_)
  · have H := (bcase_iff.1 H).1 hc65
    obtain rfl := hr.trans H.symm
    exact ⟨A24, c25, rfl, O2, hB⟩
  have H := (bcase_iff.1 H).2 hc65
  obtain ⟨⟨h0_37, h1_38⟩, H⟩ := H
  obtain ⟨a35, ha36, hat34⟩ := Row.at (R0.ext hB) h0_37 h1_38
  refine ⟨h0_37, h1_38, a35, ha36, ?_⟩
  refine ⟨_, (hat34 0 _ rfl), ?_⟩
  refine ⟨_, (hat34 1 _ rfl), ?_⟩
  refine ⟨_, (hat34 2 _ rfl), ?_⟩
  refine ⟨_, (hat34 3 _ rfl), ?_⟩
  refine newBlk (fun g3_ w39 L3 P3 e40 => ?_)
  have N2_3 := O2.apart_new L3
  have O2 := O2.ext e40
  have O3 := P3
  have L3 := Nat.le_trans hB.size L3
  have hB := ethen hB e40
  refine stBlk O3 (o := 0) (cs' := #[(.int .i64 ((rd xs0 (IntKind.wrap .i64 (x1 + 1))).Op)), (.int .i64 ((rd xs0 (IntKind.wrap .i64 (x1 + 1))).A)), (.int .i64 ((rd xs0 (IntKind.wrap .i64 (x1 + 1))).B)), (.int .i64 ((rd xs0 (IntKind.wrap .i64 (x1 + 1))).C))]) rfl rfl (Nat.le_of_ble_eq_true rfl) rfl (fun w41 P3 e42 => ?_)
  have O2_ := O2.chg e42 N2_3
  have O2 := O2_
  have hB := echg hB e42 L3
  have O3 := P3
  obtain ⟨⟨h0_46, h1_47⟩, H⟩ := H
  obtain ⟨a44, ha45, hat43⟩ := Row.at O2.row h0_46 h1_47
  refine ⟨h0_46, h1_47, a44, ha45, ?_⟩
  refine Own.storeAt O2 ha45 h0_46 h1_47 0 [(.int .i64 0), (.int .i64 0), (.int .i64 0), (.int .i64 0)] (⟨0, 0, 0, 0⟩ : D.Ins) rfl (Nat.le_of_ble_eq_true rfl) rfl (fun w48 P2 e49 hb50 => ?_)
  have O3_ := O3.chg e49 (fun h_ => (N2_3) _ ha45 h_.symm)
  have O3 := O3_
  have hB := echg hB e49 hb50
  have O2 := P2
  refine ⟨(fun _ => False), ?_⟩
  refine ⟨_, ⟨(fun h_ => h_), (O3.at 1 rfl rfl)⟩, ?_⟩
  refine ⟨_, ⟨(fun h_ => h_), (O3.at 2 rfl rfl)⟩, ?_⟩
  obtain ⟨⟨h0_55, h1_56⟩, H⟩ := H
  obtain ⟨a53, ha54, hat52⟩ := Row.at (R0.ext hB) h0_55 h1_56
  refine ⟨h0_55, h1_56, a53, ha54, ?_⟩
  refine ⟨_, ⟨(fun h_ => h_), (hat52 1 _ rfl)⟩, ?_⟩
  obtain ⟨⟨h0_60, h1_61⟩, H⟩ := H
  obtain ⟨a58, ha59, hat57⟩ := Row.at O2.row h0_60 h1_61
  refine ⟨h0_60, (by first | exact h1_61 | omega | (simp at h1_61 ⊢; omega)), a58, ha59, ?_⟩
  have hS51 := Chg.refl (fun _ => False) w48
  have O2 := O2.ext (Ext.drew _)
  have O3 := O3.ext (Ext.drew _)
  have hB := ethen hB (Ext.drew _)
  have hS51 := hS51.then (Ext.drew _)
  refine Own.storeAt O2 ha59 h0_60 h1_61 0 [(.int .i64 9), (.int .i64 ((rd xs0 (IntKind.wrap .i64 (x1 + 1))).A)), (.int .i64 ((rd xs0 (IntKind.wrap .i64 (x1 + 1))).B)), (.int .i64 ((rd xs0 x1).A))] (⟨9, (rd xs0 (IntKind.wrap .i64 (x1 + 1))).A, (rd xs0 (IntKind.wrap .i64 (x1 + 1))).B, (rd xs0 x1).A⟩ : D.Ins) rfl (Nat.le_of_ble_eq_true rfl) rfl (fun w62 P2 e63 hb64 => ?_)
  have O3_ := O3.chg e63 (fun h_ => (N2_3) _ ha59 h_.symm)
  have O3 := O3_
  have hB := echg hB e63 hb64
  have O2 := P2
  obtain rfl := hr.trans H.symm
  exact ⟨A24, c25, (by first | rfl | (simp; done) | (simp; omega) | (simp [*]; done)), (by first | exact O2 | (simp only [List.length_set]; exact O2)), hB⟩
def spec_PredicateAll.vc (A0 : Option Addr) (n0 : Nat) (c0 : Nat) (w : World) (K : Value → World → Prop) : Prop :=
  Run Tryz.prog (Instr.buildSlice 34 0 #[]) w fun v21 w22 => ∃ (A23 : Option Addr) (n24 c25 : Nat), v21 = .slice A23 n24 c25 ∧ Run Tryz.prog (Builtin.append_ #[34, 34] 34 #[(.slice A23 n24 c25), (.slice A0 n0 c0)]) w22 fun v26 w27 => ∃ (A28 : Option Addr) (n29 c30 : Nat), v26 = .slice A28 n29 c30 ∧ LoopT (σ := (Option Addr × Nat × Nat) × Int × Int × Unit) (fun z31 w32 next33 => bcase (decide (z31.2.2.1 < ((n0 : Nat) : Int))) (Cll Tryz.prog 65 #[(.slice A0 n0 c0)] w32 fun v35 w36 => (∃ (b37 : Bool), v35 = (.bool b37) ∧ bcase b37 (Cll Tryz.prog 159 #[(.slice z31.1.1 z31.1.2.1 z31.1.2.2), (.int .i64 z31.2.2.1)] w36 fun v38 w39 => (∃ u40 : Value, (∃ (A41 : Option Addr) (n42 : Nat) (c43 : Nat), u40 = (.slice A41 n42 c43) ∧ ∃ u44 : Value, (∃ (b45 : Bool), u44 = (.bool b45) ∧ v38 = (.tuple #[(.slice A41 n42 c43), (.bool b45)]) ∧ bcase b45 (next33 ((A41, n42, c43), (IntKind.wrap .i64 (z31.2.1 + 1)), (IntKind.wrap .i64 (z31.2.2.1 + 1)), ()) w39) (next33 ((A41, n42, c43), z31.2.1, (IntKind.wrap .i64 (z31.2.2.1 + 1)), ()) w39))))) (K (.tuple #[(.slice z31.1.1 z31.1.2.1 z31.1.2.2), (.int .i64 z31.2.1)]) w36))) (K (.tuple #[(.slice z31.1.1 z31.1.2.1 z31.1.2.2), (.int .i64 z31.2.1)]) w32)) ((A28, n29, c30), 0, 0, ()) w27

def spec_PredicateAll.ann : Ann := (.seq .l (.seq .l (.seq .l (.seq (.seq .l (.one (.loop [(4, .sl), (5, .int .i64), (6, .int .i64)] (.seq (.seq .l (.two .l .l)) (.seq (.one (.seq .l (.seq .l (.seq .l (.two .l .l))))) .l))))) (.seq .l .l)))))

theorem spec_PredicateAll.start {A0 : Option Addr} {n0 : Nat} {c0 : Nat} {w : World} {K : Value → World → Prop} (h : spec_PredicateAll.vc A0 n0 c0 w K) : Cll Tryz.prog 97 #[(.slice A0 n0 c0)] w K :=
  vcF_sound mixed (fn := Tryz.f97) (by kernel_rfl) (by kernel_rfl) (an := spec_PredicateAll.ann) (args := [(.slice A0 n0 c0)]) (Eq.mpr (by kernel_rfl) h)

theorem spec_PredicateAll.con {xs0 : List D.Ins} {A0 : Option Addr} {c0 : Nat} {r : (List D.Ins) × Int} {w : World} (hp : M.spec_PredicateAll_pre xs0) (hr : r = M.spec_PredicateAll xs0) (R0 : Row el89 w A0 xs0) (hc0 : xs0.length ≤ c0) :
    Cll Tryz.prog 97 #[(.slice A0 xs0.length c0)] w (fun v_ w_ => ∃ (A0_ : Option Addr) (c0_ : Nat), v_ = (.tuple #[(.slice A0_ r.1.length c0_), (.int .i64 r.2)]) ∧ Own el89 w_ w.heap.size A0_ c0_ r.1 ∧ Ext w w_) := by
  have H := wp.spec_PredicateAll.math xs0 hp
  have hB := Ext.refl w
  refine spec_PredicateAll.start ?_
  unfold spec_PredicateAll.vc
  unfold wp.spec_PredicateAll at H
  refine buildOwn el89 ([] : List D.Ins) (fun _ => by kernel_rfl) rfl (fun A21 w22 P2 e23 => ?_)
  have O2 := P2.mono hB.size
  have hB := ethen hB e23
  obtain ⟨hl28, H⟩ := H
  refine appOwn slt34 slt34.under O2 (R0.ext hB) hB.size (by first | rfl | omega | (simp; done) | (simp; omega)) rfl hl28 (fun A24 c25 w26 P2 e27 => ?_)
  have hB := eapp hB e27 O2
  have O2 := P2
  obtain ⟨J35, ⟨m62, hJ61⟩, hS36⟩ := H
  refine ⟨fun m_ z_ w_ => ∃ (xs29 : List D.Ins) (i32 : Int) (i33 : Int) (A30 : Option Addr) (c31 : Nat), z_ = ((A30, xs29.length, c31), i32, i33, ()) ∧ J35 m_ (xs29, i32, i33, ()) ∧ Ext w w_ ∧ Own el89 w_ w.heap.size A30 c31 xs29, ⟨m62, (([] : List D.Ins) ++ xs0), 0, 0, A24, c25, rfl, hJ61, hB, O2⟩, ?_⟩
  rintro m34 _ w38 ⟨xs29, i32, i33, A30, c31, rfl, hJ63, hB, O3⟩
  have H := hS36 m34 _ hJ63
  clear hS36 hJ63
  try dsimp only at H ⊢
  refine bcase_mk (fun hc59 => ?_) (fun hc59 => ?_)
  · have H := (bcase_iff.1 H).1 hc59
    obtain ⟨hp41, H⟩ := H
    obtain ⟨r39, hr40⟩ : ∃ r_, r_ = M.spec_IsQuiet xs0 := ⟨_, rfl⟩
    have H := H r39 hr40
    refine (spec_IsQuiet.con hp41 hr40 (R0.ext hB) hc0).mono ?_
    rintro _ w42 ⟨rfl, e43⟩
    have O3 := O3.ext e43
    have hB := ethen hB e43
    refine ⟨r39, rfl, ?_⟩
    refine bcase_mk (fun hc58 => ?_) (fun hc58 => ?_)
    · have H := (bcase_iff.1 H).1 hc58
      obtain ⟨hp46, H⟩ := H
      obtain ⟨r44, hr45⟩ : ∃ r_, r_ = M.spec_Predicate xs29 i33 := ⟨_, rfl⟩
      have H := H r44 hr45
      refine (spec_Predicate.con hp46 hr45 O3.row O3.le).mono ?_
      rintro _ w47 ⟨A49, c50, rfl, P4, e48⟩
      have N3_4 := Own.apart2_new O3 P4 (Nat.le_refl _)
      have O3 := O3.ext e48
      have O4 := P4.mono hB.size
      have hB := ethen hB e48
      refine ⟨(.slice A49 r44.1.length c50), ?_⟩
      refine ⟨A49, r44.1.length, c50, rfl, ?_⟩
      refine ⟨(.bool r44.2), ?_⟩
      refine ⟨r44.2, rfl, ?_⟩
      refine ⟨rfl, ?_⟩
      refine bcase_mk (fun hc57 => ?_) (fun hc57 => ?_)
      · have H := (bcase_iff.1 H).1 hc57
        obtain ⟨m51, hm52, hJ53⟩ := H
        exact ⟨m51, hm52, r44.1, (IntKind.wrap .i64 (i32 + 1)), (IntKind.wrap .i64 (i33 + 1)), A49, c50, rfl, hJ53, hB, O4⟩
      have H := (bcase_iff.1 H).2 hc57
      obtain ⟨m54, hm55, hJ56⟩ := H
      exact ⟨m54, hm55, r44.1, i32, (IntKind.wrap .i64 (i33 + 1)), A49, c50, rfl, hJ56, hB, O4⟩
    have H := (bcase_iff.1 H).2 hc58
    obtain rfl := hr.trans H.symm
    exact ⟨A30, c31, rfl, O3, hB⟩
  have H := (bcase_iff.1 H).2 hc59
  obtain rfl := hr.trans H.symm
  exact ⟨A30, c31, rfl, O3, hB⟩
def spec_SavedSplits.vc (A0 : Option Addr) (n0 : Nat) (c0 : Nat) (x1 : Int) (w : World) (K : Value → World → Prop) : Prop :=
  Cll Tryz.prog 97 #[(.slice A0 n0 c0)] w fun v21 w22 => (∃ u23 : Value, (∃ (A24 : Option Addr) (n25 : Nat) (c26 : Nat), u23 = (.slice A24 n25 c26) ∧ ∃ u27 : Value, (∃ (n28 : Int), u27 = (.int .i64 n28) ∧ v21 = (.tuple #[(.slice A24 n25 c26), (.int .i64 n28)]) ∧ Cll Tryz.prog 30 #[(.slice A0 n0 c0), (.int .i64 x1)] w22 fun v29 w30 => (∃ u31 : Value, (∃ (n32 : Int), True ∧ ∃ (n33 : Int), True ∧ ∃ (n34 : Int), True ∧ u31 = (.agg #[(.int .i64 n32), (.int .i64 n33), (.int .i64 n34)]) ∧ ∃ u35 : Value, (∃ (b36 : Bool), u35 = (.bool b36) ∧ v29 = (.tuple #[(.agg #[(.int .i64 n32), (.int .i64 n33), (.int .i64 n34)]), (.bool b36)]) ∧ newK w30 (.cells #[(.int .i64 0), (.int .i64 0), (.int .i64 0)] 46) fun g37 w38 => stCells (⟨g37, 0, none⟩ : Addr) [(.int .i64 n32), (.int .i64 n33), (.int .i64 n34)] 0 w38 fun w39 => Cll Tryz.prog 30 #[(.slice A24 n25 c26), (.int .i64 x1)] w39 fun v40 w41 => (∃ u42 : Value, (∃ (n43 : Int), True ∧ ∃ (n44 : Int), True ∧ ∃ (n45 : Int), True ∧ u42 = (.agg #[(.int .i64 n43), (.int .i64 n44), (.int .i64 n45)]) ∧ ∃ u46 : Value, (∃ (b47 : Bool), u46 = (.bool b47) ∧ v40 = (.tuple #[(.agg #[(.int .i64 n43), (.int .i64 n44), (.int .i64 n45)]), (.bool b47)]) ∧ newK w41 (.cells #[(.int .i64 0), (.int .i64 0), (.int .i64 0)] 46) fun g48 w49 => stCells (⟨g48, 0, none⟩ : Addr) [(.int .i64 n43), (.int .i64 n44), (.int .i64 n45)] 0 w49 fun w50 => bcase (!b36) (K (.int .i64 0) w50) (bcase (!b47) (K (.int .i64 0) w50) (∃ (n51 : Int), w50.cell? (((⟨g37, 0, none⟩ : Addr).add 2).add 0) = some (.int .i64 n51) ∧ ∃ (n52 : Int), w50.cell? (((⟨g48, 0, none⟩ : Addr).add 2).add 0) = some (.int .i64 n52) ∧ K (.int .i64 (IntKind.wrap .i64 (n51 - n52))) w50)))))))))))

def spec_SavedSplits.ann : Ann := (.seq .l (.seq .l (.seq .l (.seq .l (.seq (.seq .l (.two (.seq .l .l) .l)) (.seq .l .l))))))

theorem spec_SavedSplits.start {A0 : Option Addr} {n0 : Nat} {c0 : Nat} {x1 : Int} {w : World} {K : Value → World → Prop} (h : spec_SavedSplits.vc A0 n0 c0 x1 w K) : Cll Tryz.prog 35 #[(.slice A0 n0 c0), (.int .i64 x1)] w K :=
  vcF_sound mixed (fn := Tryz.f35) (by kernel_rfl) (by kernel_rfl) (an := spec_SavedSplits.ann) (args := [(.slice A0 n0 c0), (.int .i64 x1)]) (Eq.mpr (by kernel_rfl) h)

theorem spec_SavedSplits.con {xs0 : List D.Ins} {A0 : Option Addr} {c0 : Nat} {x1 : Int} {r : Int} {w : World} (hp : M.spec_SavedSplits_pre xs0 x1) (hr : r = M.spec_SavedSplits xs0 x1) (R0 : Row el89 w A0 xs0) (hc0 : xs0.length ≤ c0) :
    Cll Tryz.prog 35 #[(.slice A0 xs0.length c0), (.int .i64 x1)] w (fun v_ w_ => v_ = (.int .i64 r) ∧ Ext w w_) := by
  have H := wp.spec_SavedSplits.math xs0 x1 hp
  have hB := Ext.refl w
  refine spec_SavedSplits.start ?_
  unfold spec_SavedSplits.vc
  unfold wp.spec_SavedSplits at H
  obtain ⟨hp23, H⟩ := H
  obtain ⟨r21, hr22⟩ : ∃ r_, r_ = M.spec_PredicateAll xs0 := ⟨_, rfl⟩
  have H := H r21 hr22
  refine (spec_PredicateAll.con hp23 hr22 (R0.ext hB) hc0).mono ?_
  rintro _ w24 ⟨A26, c27, rfl, P2, e25⟩
  have O2 := P2.mono hB.size
  have hB := ethen hB e25
  refine ⟨(.slice A26 r21.1.length c27), ?_⟩
  refine ⟨A26, r21.1.length, c27, rfl, ?_⟩
  refine ⟨(.int .i64 r21.2), ?_⟩
  refine ⟨r21.2, rfl, ?_⟩
  refine ⟨rfl, ?_⟩
  obtain ⟨hp30, H⟩ := H
  obtain ⟨r28, hr29⟩ : ∃ r_, r_ = M.spec_CostOf xs0 x1 := ⟨_, rfl⟩
  have H := H r28 hr29
  refine (spec_CostOf.con hp30 hr29 (R0.ext hB) hc0).mono ?_
  rintro _ w31 ⟨rfl, e32⟩
  have O2 := O2.ext e32
  have hB := ethen hB e32
  refine ⟨(.agg #[(.int .i64 r28.1.Steps), (.int .i64 r28.1.Active), (.int .i64 r28.1.Splits)]), ?_⟩
  refine ⟨r28.1.Steps, trivial, ?_⟩
  refine ⟨r28.1.Active, trivial, ?_⟩
  refine ⟨r28.1.Splits, trivial, ?_⟩
  refine ⟨rfl, ?_⟩
  refine ⟨(.bool r28.2), ?_⟩
  refine ⟨r28.2, rfl, ?_⟩
  refine ⟨rfl, ?_⟩
  refine newBlk (fun g3_ w33 L3 P3 e34 => ?_)
  have N2_3 := O2.apart_new L3
  have O2 := O2.ext e34
  have O3 := P3
  have L3 := Nat.le_trans hB.size L3
  have hB := ethen hB e34
  refine stBlk O3 (o := 0) (cs' := #[(.int .i64 r28.1.Steps), (.int .i64 r28.1.Active), (.int .i64 r28.1.Splits)]) rfl rfl (Nat.le_of_ble_eq_true rfl) rfl (fun w35 P3 e36 => ?_)
  have O2_ := O2.chg e36 N2_3
  have O2 := O2_
  have hB := echg hB e36 L3
  have O3 := P3
  obtain ⟨hp39, H⟩ := H
  obtain ⟨r37, hr38⟩ : ∃ r_, r_ = M.spec_CostOf r21.1 x1 := ⟨_, rfl⟩
  have H := H r37 hr38
  refine (spec_CostOf.con hp39 hr38 O2.row O2.le).mono ?_
  rintro _ w40 ⟨rfl, e41⟩
  have O2 := O2.ext e41
  have O3 := O3.ext e41
  have hB := ethen hB e41
  refine ⟨(.agg #[(.int .i64 r37.1.Steps), (.int .i64 r37.1.Active), (.int .i64 r37.1.Splits)]), ?_⟩
  refine ⟨r37.1.Steps, trivial, ?_⟩
  refine ⟨r37.1.Active, trivial, ?_⟩
  refine ⟨r37.1.Splits, trivial, ?_⟩
  refine ⟨rfl, ?_⟩
  refine ⟨(.bool r37.2), ?_⟩
  refine ⟨r37.2, rfl, ?_⟩
  refine ⟨rfl, ?_⟩
  refine newBlk (fun g4_ w42 L4 P4 e43 => ?_)
  have N2_4 := O2.apart_new L4
  have N3_4 := O3.ne L4
  have O2 := O2.ext e43
  have O3 := O3.ext e43
  have O4 := P4
  have L4 := Nat.le_trans hB.size L4
  have hB := ethen hB e43
  refine stBlk O4 (o := 0) (cs' := #[(.int .i64 r37.1.Steps), (.int .i64 r37.1.Active), (.int .i64 r37.1.Splits)]) rfl rfl (Nat.le_of_ble_eq_true rfl) rfl (fun w44 P4 e45 => ?_)
  have O2_ := O2.chg e45 N2_4
  have O3_ := O3.chg e45 N3_4
  have O2 := O2_
  have O3 := O3_
  have hB := echg hB e45 L4
  have O4 := P4
  refine bcase_mk (fun hc47 => ?_) (fun hc47 => ?_)
  · have H := (bcase_iff.1 H).1 hc47
    obtain rfl := hr.trans H.symm
    exact ⟨rfl, hB⟩
  have H := (bcase_iff.1 H).2 hc47
  refine bcase_mk (fun hc46 => ?_) (fun hc46 => ?_)
  · have H := (bcase_iff.1 H).1 hc46
    obtain rfl := hr.trans H.symm
    exact ⟨rfl, hB⟩
  have H := (bcase_iff.1 H).2 hc46
  refine ⟨_, (O3.at 2 rfl rfl), ?_⟩
  refine ⟨_, (O4.at 2 rfl rfl), ?_⟩
  obtain rfl := hr.trans H.symm
  exact ⟨rfl, hB⟩
def impl_isTarget.vc (x0 : Int) (w : World) (K : Value → World → Prop) : Prop :=
  bcase (x0 == 10) (K (.bool true) w) (K (.bool (x0 == 11)) w)

def impl_isTarget.ann : Ann := (.seq .l (.seq .l .l))

theorem impl_isTarget.start {x0 : Int} {w : World} {K : Value → World → Prop} (h : impl_isTarget.vc x0 w K) : Cll Tryz.prog 249 #[(.int .i64 x0)] w K :=
  vcF_sound mixed (fn := Tryz.f249) (by kernel_rfl) (by kernel_rfl) (an := impl_isTarget.ann) (args := [(.int .i64 x0)]) (Eq.mpr (by kernel_rfl) h)

theorem impl_isTarget.con {x0 : Int} {r : Bool} {w : World} (hr : r = M.impl_isTarget x0)  :
    Cll Tryz.prog 249 #[(.int .i64 x0)] w (fun v_ w_ => v_ = (.bool r) ∧ Ext w w_) := by
  have H := wp.impl_isTarget.math x0
  have hB := Ext.refl w
  refine impl_isTarget.start ?_
  unfold impl_isTarget.vc
  unfold wp.impl_isTarget at H
  refine bcase_mk (fun hc21 => ?_) (fun hc21 => ?_)
  · have H := (bcase_iff.1 H).1 hc21
    obtain rfl := hr.trans H.symm
    exact ⟨rfl, hB⟩
  have H := (bcase_iff.1 H).2 hc21
  obtain rfl := hr.trans H.symm
  exact ⟨rfl, hB⟩
def impl_CanPredicate_1.vc (x0_0 : Int) (x0_1 : Int) (x0_2 : Int) (x0_3 : Int) (p1 : Addr) (w : World) (K : Value → World → Prop) : Prop :=
  newK w (.cells #[(.int .i64 x0_0), (.int .i64 x0_1), (.int .i64 x0_2), (.int .i64 x0_3)] 89) fun g21 w22 => ∃ (n23 : Int), w22.cell? (((⟨g21, 0, none⟩ : Addr).add 0).add 0) = some (.int .i64 n23) ∧ Cll Tryz.prog 249 #[(.int .i64 n23)] w22 fun v24 w25 => (∃ (b26 : Bool), v24 = (.bool b26) ∧ bcase b26 (∃ (n27 : Int), w25.cell? (((⟨g21, 0, none⟩ : Addr).add 2).add 0) = some (.int .i64 n27) ∧ ∃ (n28 : Int), w25.cell? (p1.add 0) = some (.int .i64 n28) ∧ K (.bool (n27 == (IntKind.wrap .i64 (n28 + 1)))) w25) (K (.bool false) w25))

def impl_CanPredicate_1.ann : Ann := (.seq .l (.seq .l .l))

theorem impl_CanPredicate_1.start {x0_0 : Int} {x0_1 : Int} {x0_2 : Int} {x0_3 : Int} {p1 : Addr} {w : World} {K : Value → World → Prop} (h : impl_CanPredicate_1.vc x0_0 x0_1 x0_2 x0_3 p1 w K) : Cll Tryz.prog 248 #[(.agg #[(.int .i64 x0_0), (.int .i64 x0_1), (.int .i64 x0_2), (.int .i64 x0_3)]), (.pointer (some p1))] w K :=
  vcF_sound mixed (fn := Tryz.f248) (by kernel_rfl) (by kernel_rfl) (an := impl_CanPredicate_1.ann) (args := [(.agg #[(.int .i64 x0_0), (.int .i64 x0_1), (.int .i64 x0_2), (.int .i64 x0_3)]), (.pointer (some p1))]) (Eq.mpr (by kernel_rfl) h)

theorem impl_CanPredicate_1.con {s0 : D.Ins} {x1 : Int} {g1_ : Nat} {r : Bool} {w : World} (hp : M.impl_CanPredicate_1_pre s0 x1) (hr : r = M.impl_CanPredicate_1 s0 x1) (O1 : Blk w g1_ 3 #[(.int .i64 x1)]) :
    Cll Tryz.prog 248 #[(.agg #[(.int .i64 s0.Op), (.int .i64 s0.A), (.int .i64 s0.B), (.int .i64 s0.C)]), (.pointer (some (⟨g1_, 0, none⟩ : Addr)))] w (fun v_ w_ => v_ = (.bool r) ∧ Ext w w_) := by
  have H := wp.impl_CanPredicate_1.math s0 x1 hp
  have hB := Ext.refl w
  refine impl_CanPredicate_1.start ?_
  unfold impl_CanPredicate_1.vc
  unfold wp.impl_CanPredicate_1 at H
  refine newBlk (fun g2_ w21 L2 P2 e22 => ?_)
  have N1_2 := O1.ne L2
  have O1 := O1.ext e22
  have O2 := P2
  have L2 := Nat.le_trans hB.size L2
  have hB := ethen hB e22
  refine ⟨_, (O2.at 0 rfl rfl), ?_⟩
  obtain ⟨r23, hr24⟩ : ∃ r_, r_ = M.impl_isTarget s0.Op := ⟨_, rfl⟩
  have H := H r23 hr24
  refine (impl_isTarget.con hr24 ).mono ?_
  rintro _ w26 ⟨rfl, e27⟩
  have O1 := O1.ext e27
  have O2 := O2.ext e27
  have hB := ethen hB e27
  refine ⟨r23, rfl, ?_⟩
  refine bcase_mk (fun hc28 => ?_) (fun hc28 => ?_)
  · have H := (bcase_iff.1 H).1 hc28
    refine ⟨_, (O2.at 2 rfl rfl), ?_⟩
    refine ⟨_, (O1.at 0 rfl rfl), ?_⟩
    obtain rfl := hr.trans H.symm
    exact ⟨rfl, hB⟩
  have H := (bcase_iff.1 H).2 hc28
  obtain rfl := hr.trans H.symm
  exact ⟨rfl, hB⟩
def impl_CanPredicate.vc (A0 : Option Addr) (n0 : Nat) (c0 : Nat) (x1 : Int) (w : World) (K : Value → World → Prop) : Prop :=
  newK w (.cells #[(.int .i64 x1)] 3) fun g21 w22 => Cll Tryz.prog 73 #[(.slice A0 n0 c0)] w22 fun v24 w25 => (∃ (b26 : Bool), v24 = (.bool b26) ∧ bcase (!b26) (K (.bool false) w25) (∃ (n27 : Int), w25.cell? ((⟨g21, 0, none⟩ : Addr).add 0) = some (.int .i64 n27) ∧ Cll Tryz.prog 75 #[(.int .i64 n27), (.int .i64 0), (.int .i64 (IntKind.wrap .i64 (((n0 : Nat) : Int) - 2)))] w25 fun v28 w29 => (∃ (b30 : Bool), v28 = (.bool b30) ∧ bcase (!b30) (K (.bool false) w29) (JoinT (σ := Addr × Addr × Unit) (fun J31 => (∃ M32 : Nat → Prop, ∃ (n33 : Int), (¬ M32 ((⟨g21, 0, none⟩ : Addr)).block ∧ w29.cell? ((⟨g21, 0, none⟩ : Addr).add 0) = some (.int .i64 n33)) ∧ ((0 : Int) ≤ n33 ∧ n33 < ((n0 : Nat) : Int) ∧ ∃ a34 : Addr, A0 = some a34 ∧ ∃ (n35 : Int), (¬ M32 ((a34.add ((n33.toNat) * 4))).block ∧ w29.cell? ((a34.add ((n33.toNat) * 4)).add 0) = some (.int .i64 n35)) ∧ ∃ (n36 : Int), (¬ M32 ((a34.add ((n33.toNat) * 4))).block ∧ w29.cell? ((a34.add ((n33.toNat) * 4)).add 1) = some (.int .i64 n36)) ∧ ∃ (n37 : Int), (¬ M32 ((a34.add ((n33.toNat) * 4))).block ∧ w29.cell? ((a34.add ((n33.toNat) * 4)).add 2) = some (.int .i64 n37)) ∧ ∃ (n38 : Int), (¬ M32 ((a34.add ((n33.toNat) * 4))).block ∧ w29.cell? ((a34.add ((n33.toNat) * 4)).add 3) = some (.int .i64 n38)) ∧ ∃ (n39 : Int), (¬ M32 ((⟨g21, 0, none⟩ : Addr)).block ∧ w29.cell? ((⟨g21, 0, none⟩ : Addr).add 0) = some (.int .i64 n39)) ∧ ((0 : Int) ≤ (IntKind.wrap .i64 (n39 + 1)) ∧ (IntKind.wrap .i64 (n39 + 1)) < ((n0 : Nat) : Int) ∧ ∃ a40 : Addr, A0 = some a40 ∧ ∃ (n41 : Int), (¬ M32 ((a40.add (((IntKind.wrap .i64 (n39 + 1)).toNat) * 4))).block ∧ w29.cell? ((a40.add (((IntKind.wrap .i64 (n39 + 1)).toNat) * 4)).add 0) = some (.int .i64 n41)) ∧ ∃ (n42 : Int), (¬ M32 ((a40.add (((IntKind.wrap .i64 (n39 + 1)).toNat) * 4))).block ∧ w29.cell? ((a40.add (((IntKind.wrap .i64 (n39 + 1)).toNat) * 4)).add 1) = some (.int .i64 n42)) ∧ ∃ (n43 : Int), (¬ M32 ((a40.add (((IntKind.wrap .i64 (n39 + 1)).toNat) * 4))).block ∧ w29.cell? ((a40.add (((IntKind.wrap .i64 (n39 + 1)).toNat) * 4)).add 2) = some (.int .i64 n43)) ∧ ∃ (n44 : Int), (¬ M32 ((a40.add (((IntKind.wrap .i64 (n39 + 1)).toNat) * 4))).block ∧ w29.cell? ((a40.add (((IntKind.wrap .i64 (n39 + 1)).toNat) * 4)).add 3) = some (.int .i64 n44)) ∧ ((newK w29.drew (.cells #[(.int .i64 0), (.int .i64 0), (.int .i64 0), (.int .i64 0)] 89) fun g45 w46 => SameBut M32 w29 w46 ∧ newK w46 (.cells #[(.int .i64 0), (.int .i64 0), (.int .i64 0), (.int .i64 0)] 89) fun g47 w48 => SameBut M32 w29 w48 ∧ stCells (⟨g45, 0, none⟩ : Addr) [(.int .i64 n35), (.int .i64 n36), (.int .i64 n37), (.int .i64 n38)] 0 w48 fun w49 => SameBut M32 w29 w49 ∧ stCells (⟨g47, 0, none⟩ : Addr) [(.int .i64 n41), (.int .i64 n42), (.int .i64 n43), (.int .i64 n44)] 0 w49 fun w50 => J31 ((⟨g45, 0, none⟩ : Addr), (⟨g47, 0, none⟩ : Addr), ()) w50) ∧ (newK w29.drew (.cells #[(.int .i64 0), (.int .i64 0), (.int .i64 0), (.int .i64 0)] 89) fun g51 w52 => SameBut M32 w29 w52 ∧ newK w52 (.cells #[(.int .i64 0), (.int .i64 0), (.int .i64 0), (.int .i64 0)] 89) fun g53 w54 => SameBut M32 w29 w54 ∧ stCells (⟨g53, 0, none⟩ : Addr) [(.int .i64 n35), (.int .i64 n36), (.int .i64 n37), (.int .i64 n38)] 0 w54 fun w55 => SameBut M32 w29 w55 ∧ stCells (⟨g51, 0, none⟩ : Addr) [(.int .i64 n41), (.int .i64 n42), (.int .i64 n43), (.int .i64 n44)] 0 w55 fun w56 => J31 ((⟨g53, 0, none⟩ : Addr), (⟨g51, 0, none⟩ : Addr), ()) w56) ∧ True))))) fun z57 w58 => ∃ (n59 : Int), w58.cell? ((z57.1.add 0).add 0) = some (.int .i64 n59) ∧ bcase (n59 == 10) (∃ (n60 : Int), w58.cell? ((z57.1.add 2).add 0) = some (.int .i64 n60) ∧ ∃ (n61 : Int), w58.cell? ((⟨g21, 0, none⟩ : Addr).add 0) = some (.int .i64 n61) ∧ bcase (n60 == (IntKind.wrap .i64 (n61 + 2))) (∃ (n62 : Int), w58.cell? ((z57.2.1.add 0).add 0) = some (.int .i64 n62) ∧ bcase (n62 == 2) (∃ (n63 : Int), w58.cell? ((z57.2.1.add 1).add 0) = some (.int .i64 n63) ∧ ∃ (n64 : Int), w58.cell? ((z57.1.add 1).add 0) = some (.int .i64 n64) ∧ bcase (n63 != n64) (Cll Tryz.prog 141 #[(.slice A0 n0 c0), (.func (.func 248) #[] #[(.pointer (some (⟨g21, 0, none⟩ : Addr)))])] w58 fun v65 w66 => (∃ (b67 : Bool), v65 = (.bool b67) ∧ K (.bool (!b67)) w66)) (K (.bool false) w58)) (K (.bool false) w58)) (K (.bool false) w58)) (K (.bool false) w58)))))

def impl_CanPredicate.ann : Ann := (.seq .l (.seq (.seq .l (.two (.seq .l .l) .l)) (.cut [(5, .ptr), (6, .ptr)] .l (.seq .l .l))))

theorem impl_CanPredicate.start {A0 : Option Addr} {n0 : Nat} {c0 : Nat} {x1 : Int} {w : World} {K : Value → World → Prop} (h : impl_CanPredicate.vc A0 n0 c0 x1 w K) : Cll Tryz.prog 212 #[(.slice A0 n0 c0), (.int .i64 x1)] w K :=
  vcF_sound mixed (fn := Tryz.f212) (by kernel_rfl) (by kernel_rfl) (an := impl_CanPredicate.ann) (args := [(.slice A0 n0 c0), (.int .i64 x1)]) (Eq.mpr (by kernel_rfl) h)

theorem impl_CanPredicate.con {xs0 : List D.Ins} {A0 : Option Addr} {c0 : Nat} {x1 : Int} {r : Bool} {w : World} (hp : M.impl_CanPredicate_pre xs0 x1) (hr : r = M.impl_CanPredicate xs0 x1) (R0 : Row el89 w A0 xs0) (hc0 : xs0.length ≤ c0) :
    Cll Tryz.prog 212 #[(.slice A0 xs0.length c0), (.int .i64 x1)] w (fun v_ w_ => v_ = (.bool r) ∧ Ext w w_) := by
  have H := wp.impl_CanPredicate.math xs0 x1 hp
  have hB := Ext.refl w
  refine impl_CanPredicate.start ?_
  unfold impl_CanPredicate.vc
  unfold wp.impl_CanPredicate at H
  refine newBlk (fun g2_ w21 L2 P2 e22 => ?_)
  have O2 := P2
  have L2 := Nat.le_trans hB.size L2
  have hB := ethen hB e22
  obtain ⟨hp25, H⟩ := H
  obtain ⟨r23, hr24⟩ : ∃ r_, r_ = M.impl_IsQuiet xs0 := ⟨_, rfl⟩
  have H := H r23 hr24
  refine (impl_IsQuiet.con hp25 hr24 (R0.ext hB) hc0).mono ?_
  rintro _ w26 ⟨rfl, e27⟩
  have O2 := O2.ext e27
  have hB := ethen hB e27
  refine ⟨r23, rfl, ?_⟩
  refine bcase_mk (fun hc83 => ?_) (fun hc83 => ?_)
  · have H := (bcase_iff.1 H).1 hc83
    obtain rfl := hr.trans H.symm
    exact ⟨rfl, hB⟩
  have H := (bcase_iff.1 H).2 hc83
  refine ⟨_, (O2.at 0 rfl rfl), ?_⟩
  obtain ⟨r28, hr29⟩ : ∃ r_, r_ = M.impl_within x1 0 (IntKind.wrap .i64 (((xs0.length : Nat) : Int) - 2)) := ⟨_, rfl⟩
  have H := H r28 hr29
  refine (impl_within.con hr29 ).mono ?_
  rintro _ w31 ⟨rfl, e32⟩
  have O2 := O2.ext e32
  have hB := ethen hB e32
  refine ⟨r28, rfl, ?_⟩
  refine bcase_mk (fun hc82 => ?_) (fun hc82 => ?_)
  · have H := (bcase_iff.1 H).1 hc82
    obtain rfl := hr.trans H.symm
    exact ⟨rfl, hB⟩
  have H := (bcase_iff.1 H).2 hc82
  obtain ⟨K81, hKK81, H⟩ := joinP_out H
  refine ⟨fun z_ w_ => ∃ (i33 : Int) (i34 : Int) (i35 : Int) (i36 : Int) (i37 : Int) (i38 : Int) (i39 : Int) (i40 : Int) (g7_ : Nat) (g8_ : Nat), z_ = ((⟨g7_, 0, none⟩ : Addr), (⟨g8_, 0, none⟩ : Addr), ()) ∧ K81 (i33, i34, i35, i36, i37, i38, i39, i40, ()) ∧ Ext w w_ ∧ Blk w_ g7_ 89 #[(.int .i64 i33), (.int .i64 i34), (.int .i64 i35), (.int .i64 i36)] ∧ w.heap.size ≤ g7_ ∧ Blk w_ g8_ 89 #[(.int .i64 i37), (.int .i64 i38), (.int .i64 i39), (.int .i64 i40)] ∧ w.heap.size ≤ g8_ ∧ Blk w_ g2_ 3 #[(.int .i64 x1)] ∧ g7_ ≠ g8_, ?_, ?_⟩
  · refine ⟨(fun _ => False), ?_⟩
    refine ⟨_, ⟨(fun h_ => h_), (O2.at 0 rfl rfl)⟩, ?_⟩
    obtain ⟨⟨h0_48, h1_49⟩, H⟩ := H
    obtain ⟨a46, ha47, hat45⟩ := Row.at (R0.ext hB) h0_48 h1_49
    refine ⟨h0_48, h1_49, a46, ha47, ?_⟩
    refine ⟨_, ⟨(fun h_ => h_), (hat45 0 _ rfl)⟩, ?_⟩
    refine ⟨_, ⟨(fun h_ => h_), (hat45 1 _ rfl)⟩, ?_⟩
    refine ⟨_, ⟨(fun h_ => h_), (hat45 2 _ rfl)⟩, ?_⟩
    refine ⟨_, ⟨(fun h_ => h_), (hat45 3 _ rfl)⟩, ?_⟩
    refine ⟨_, ⟨(fun h_ => h_), (O2.at 0 rfl rfl)⟩, ?_⟩
    obtain ⟨⟨h0_53, h1_54⟩, H⟩ := H
    obtain ⟨a51, ha52, hat50⟩ := Row.at (R0.ext hB) h0_53 h1_54
    refine ⟨h0_53, h1_54, a51, ha52, ?_⟩
    refine ⟨_, ⟨(fun h_ => h_), (hat50 0 _ rfl)⟩, ?_⟩
    refine ⟨_, ⟨(fun h_ => h_), (hat50 1 _ rfl)⟩, ?_⟩
    refine ⟨_, ⟨(fun h_ => h_), (hat50 2 _ rfl)⟩, ?_⟩
    refine ⟨_, ⟨(fun h_ => h_), (hat50 3 _ rfl)⟩, ?_⟩
    refine And.intro ?_ ?_
    · have H := H.1
      have hS44 := Chg.refl (fun _ => False) w31
      have O2 := O2.ext (Ext.drew _)
      have hB := ethen hB (Ext.drew _)
      have hS44 := hS44.then (Ext.drew _)
      refine newBlk (fun g9_ w55 L9 P9 e56 => ?_)
      have N2_9 := O2.ne L9
      have O2 := O2.ext e56
      have O9 := P9
      have LB9 := Nat.le_trans hS44.size L9
      have L9 := Nat.le_trans hB.size L9
      have hB := ethen hB e56
      have hS44 := hS44.then e56
      refine ⟨sameBut_chg hS44, ?_⟩
      refine newBlk (fun g10_ w57 L10 P10 e58 => ?_)
      have N2_10 := O2.ne L10
      have N9_10 := O9.ne L10
      have O2 := O2.ext e58
      have O9 := O9.ext e58
      have O10 := P10
      have LB10 := Nat.le_trans hS44.size L10
      have L10 := Nat.le_trans hB.size L10
      have hB := ethen hB e58
      have hS44 := hS44.then e58
      refine ⟨sameBut_chg hS44, ?_⟩
      refine stBlk O9 (o := 0) (cs' := #[(.int .i64 ((rd xs0 x1).Op)), (.int .i64 ((rd xs0 x1).A)), (.int .i64 ((rd xs0 x1).B)), (.int .i64 ((rd xs0 x1).C))]) rfl rfl (Nat.le_of_ble_eq_true rfl) rfl (fun w59 P9 e60 => ?_)
      have O2_ := O2.chg e60 N2_9
      have O10_ := O10.chg e60 (N9_10).symm
      have O2 := O2_
      have O10 := O10_
      have hB := echg hB e60 L9
      have hS44 := hS44.chgb e60 (Or.inl LB9)
      have O9 := P9
      refine ⟨sameBut_chg hS44, ?_⟩
      refine stBlk O10 (o := 0) (cs' := #[(.int .i64 ((rd xs0 (IntKind.wrap .i64 (x1 + 1))).Op)), (.int .i64 ((rd xs0 (IntKind.wrap .i64 (x1 + 1))).A)), (.int .i64 ((rd xs0 (IntKind.wrap .i64 (x1 + 1))).B)), (.int .i64 ((rd xs0 (IntKind.wrap .i64 (x1 + 1))).C))]) rfl rfl (Nat.le_of_ble_eq_true rfl) rfl (fun w61 P10 e62 => ?_)
      have O2_ := O2.chg e62 N2_10
      have O9_ := O9.chg e62 N9_10
      have O2 := O2_
      have O9 := O9_
      have hB := echg hB e62 L10
      have O10 := P10
      exact ⟨(rd xs0 x1).Op, (rd xs0 x1).A, (rd xs0 x1).B, (rd xs0 x1).C, (rd xs0 (IntKind.wrap .i64 (x1 + 1))).Op, (rd xs0 (IntKind.wrap .i64 (x1 + 1))).A, (rd xs0 (IntKind.wrap .i64 (x1 + 1))).B, (rd xs0 (IntKind.wrap .i64 (x1 + 1))).C, g9_, g10_, rfl, H, hB, O9, L9, O10, L10, O2, N9_10⟩
    refine And.intro ?_ ?_
    · have H := H.2.1
      have hS44 := Chg.refl (fun _ => False) w31
      have O2 := O2.ext (Ext.drew _)
      have hB := ethen hB (Ext.drew _)
      have hS44 := hS44.then (Ext.drew _)
      refine newBlk (fun g11_ w63 L11 P11 e64 => ?_)
      have N2_11 := O2.ne L11
      have O2 := O2.ext e64
      have O11 := P11
      have LB11 := Nat.le_trans hS44.size L11
      have L11 := Nat.le_trans hB.size L11
      have hB := ethen hB e64
      have hS44 := hS44.then e64
      refine ⟨sameBut_chg hS44, ?_⟩
      refine newBlk (fun g12_ w65 L12 P12 e66 => ?_)
      have N2_12 := O2.ne L12
      have N11_12 := O11.ne L12
      have O2 := O2.ext e66
      have O11 := O11.ext e66
      have O12 := P12
      have LB12 := Nat.le_trans hS44.size L12
      have L12 := Nat.le_trans hB.size L12
      have hB := ethen hB e66
      have hS44 := hS44.then e66
      refine ⟨sameBut_chg hS44, ?_⟩
      refine stBlk O12 (o := 0) (cs' := #[(.int .i64 ((rd xs0 x1).Op)), (.int .i64 ((rd xs0 x1).A)), (.int .i64 ((rd xs0 x1).B)), (.int .i64 ((rd xs0 x1).C))]) rfl rfl (Nat.le_of_ble_eq_true rfl) rfl (fun w67 P12 e68 => ?_)
      have O2_ := O2.chg e68 N2_12
      have O11_ := O11.chg e68 N11_12
      have O2 := O2_
      have O11 := O11_
      have hB := echg hB e68 L12
      have hS44 := hS44.chgb e68 (Or.inl LB12)
      have O12 := P12
      refine ⟨sameBut_chg hS44, ?_⟩
      refine stBlk O11 (o := 0) (cs' := #[(.int .i64 ((rd xs0 (IntKind.wrap .i64 (x1 + 1))).Op)), (.int .i64 ((rd xs0 (IntKind.wrap .i64 (x1 + 1))).A)), (.int .i64 ((rd xs0 (IntKind.wrap .i64 (x1 + 1))).B)), (.int .i64 ((rd xs0 (IntKind.wrap .i64 (x1 + 1))).C))]) rfl rfl (Nat.le_of_ble_eq_true rfl) rfl (fun w69 P11 e70 => ?_)
      have O2_ := O2.chg e70 N2_11
      have O12_ := O12.chg e70 (N11_12).symm
      have O2 := O2_
      have O12 := O12_
      have hB := echg hB e70 L11
      have O11 := P11
      exact ⟨(rd xs0 x1).Op, (rd xs0 x1).A, (rd xs0 x1).B, (rd xs0 x1).C, (rd xs0 (IntKind.wrap .i64 (x1 + 1))).Op, (rd xs0 (IntKind.wrap .i64 (x1 + 1))).A, (rd xs0 (IntKind.wrap .i64 (x1 + 1))).B, (rd xs0 (IntKind.wrap .i64 (x1 + 1))).C, g12_, g11_, rfl, H, hB, O12, L12, O11, L11, O2, (N11_12).symm⟩
    exact trivial
  rintro _ w42 ⟨i33, i34, i35, i36, i37, i38, i39, i40, g7_, g8_, rfl, H, hB, O7, L7, O8, L8, O2, N7_8⟩
  have H := hKK81 _ H
  try dsimp only at H ⊢
  refine ⟨_, (O7.at 0 rfl rfl), ?_⟩
  refine bcase_mk (fun hc79 => ?_) (fun hc79 => ?_)
  · have H := (bcase_iff.1 H).1 hc79
    refine ⟨_, (O7.at 2 rfl rfl), ?_⟩
    refine ⟨_, (O2.at 0 rfl rfl), ?_⟩
    refine bcase_mk (fun hc78 => ?_) (fun hc78 => ?_)
    · have H := (bcase_iff.1 H).1 hc78
      refine ⟨_, (O8.at 0 rfl rfl), ?_⟩
      refine bcase_mk (fun hc77 => ?_) (fun hc77 => ?_)
      · have H := (bcase_iff.1 H).1 hc77
        refine ⟨_, (O8.at 1 rfl rfl), ?_⟩
        refine ⟨_, (O7.at 1 rfl rfl), ?_⟩
        refine bcase_mk (fun hc76 => ?_) (fun hc76 => ?_)
        · have H := (bcase_iff.1 H).1 hc76
          obtain ⟨hp73, H⟩ := H
          obtain ⟨r71, hr72⟩ : ∃ r_, r_ = M.slices_ContainsFunc_impl_Ins_impl_Ins xs0 (fun z0_ => M.impl_CanPredicate_1 z0_ x1) := ⟨_, rfl⟩
          have H := H r71 hr72
          refine (slices_ContainsFunc_impl_Ins_impl_Ins.con hp73 hr72 (R0.ext hB) hc0 (fun z0_ h_ w_ e_ => cllApp (l1 := [_]) (l2 := [_]) (impl_CanPredicate_1.con h_ rfl (O2.ext e_)))).mono ?_
          rintro _ w74 ⟨rfl, e75⟩
          have O2 := O2.ext e75
          have O7 := O7.ext e75
          have O8 := O8.ext e75
          have hB := ethen hB e75
          refine ⟨r71, rfl, ?_⟩
          obtain rfl := hr.trans H.symm
          exact ⟨rfl, hB⟩
        have H := (bcase_iff.1 H).2 hc76
        obtain rfl := hr.trans H.symm
        exact ⟨rfl, hB⟩
      have H := (bcase_iff.1 H).2 hc77
      obtain rfl := hr.trans H.symm
      exact ⟨rfl, hB⟩
    have H := (bcase_iff.1 H).2 hc78
    obtain rfl := hr.trans H.symm
    exact ⟨rfl, hB⟩
  have H := (bcase_iff.1 H).2 hc79
  obtain rfl := hr.trans H.symm
  exact ⟨rfl, hB⟩
def impl_Predicate.vc (A0 : Option Addr) (n0 : Nat) (c0 : Nat) (x1 : Int) (w : World) (K : Value → World → Prop) : Prop :=
  Cll Tryz.prog 160 #[(.slice A0 n0 c0)] w fun v21 w22 => (∃ (A23 : Option Addr) (n24 : Nat) (c25 : Nat), v21 = (.slice A23 n24 c25) ∧ Cll Tryz.prog 212 #[(.slice A0 n0 c0), (.int .i64 x1)] w22 fun v26 w27 => (∃ (b28 : Bool), v26 = (.bool b28) ∧ bcase (!b28) (K (.tuple #[(.slice A23 n24 c25), (.bool false)]) w27) (((0 : Int) ≤ x1 ∧ x1 < ((n24 : Nat) : Int) ∧ ∃ a29 : Addr, A23 = some a29 ∧ stCells (a29.add ((x1.toNat) * 4)) [(.int .i64 0), (.int .i64 0), (.int .i64 0), (.int .i64 0)] 0 w27 fun w30 => (∃ M31 : Nat → Prop, ((0 : Int) ≤ (IntKind.wrap .i64 (x1 + 1)) ∧ (IntKind.wrap .i64 (x1 + 1)) < ((n0 : Nat) : Int) ∧ ∃ a32 : Addr, A0 = some a32 ∧ ∃ (n33 : Int), (¬ M31 (((a32.add (((IntKind.wrap .i64 (x1 + 1)).toNat) * 4)).add 1)).block ∧ w30.cell? (((a32.add (((IntKind.wrap .i64 (x1 + 1)).toNat) * 4)).add 1).add 0) = some (.int .i64 n33)) ∧ ((0 : Int) ≤ (IntKind.wrap .i64 (x1 + 1)) ∧ (IntKind.wrap .i64 (x1 + 1)) < ((n0 : Nat) : Int) ∧ ∃ a34 : Addr, A0 = some a34 ∧ ∃ (n35 : Int), (¬ M31 (((a34.add (((IntKind.wrap .i64 (x1 + 1)).toNat) * 4)).add 2)).block ∧ w30.cell? (((a34.add (((IntKind.wrap .i64 (x1 + 1)).toNat) * 4)).add 2).add 0) = some (.int .i64 n35)) ∧ ((0 : Int) ≤ x1 ∧ x1 < ((n0 : Nat) : Int) ∧ ∃ a36 : Addr, A0 = some a36 ∧ ∃ (n37 : Int), (¬ M31 (((a36.add ((x1.toNat) * 4)).add 1)).block ∧ w30.cell? (((a36.add ((x1.toNat) * 4)).add 1).add 0) = some (.int .i64 n37)) ∧ ((0 : Int) ≤ (IntKind.wrap .i64 (x1 + 1)) ∧ (IntKind.wrap .i64 (x1 + 1)) < ((n24 : Nat) : Int) ∧ ∃ a38 : Addr, A23 = some a38 ∧ stCells (a38.add (((IntKind.wrap .i64 (x1 + 1)).toNat) * 4)) [(.int .i64 9), (.int .i64 n33), (.int .i64 n35), (.int .i64 n37)] 0 w30.drew fun w39 => K (.tuple #[(.slice A23 n24 c25), (.bool true)]) w39)))))))))

def impl_Predicate.ann : Ann := (.seq .l (.seq .l (.seq (.seq .l (.two (.seq .l .l) .l)) (.seq .l (.seq .l (.seq .l .l))))))

theorem impl_Predicate.start {A0 : Option Addr} {n0 : Nat} {c0 : Nat} {x1 : Int} {w : World} {K : Value → World → Prop} (h : impl_Predicate.vc A0 n0 c0 x1 w K) : Cll Tryz.prog 161 #[(.slice A0 n0 c0), (.int .i64 x1)] w K :=
  vcF_sound mixed (fn := Tryz.f161) (by kernel_rfl) (by kernel_rfl) (an := impl_Predicate.ann) (args := [(.slice A0 n0 c0), (.int .i64 x1)]) (Eq.mpr (by kernel_rfl) h)

theorem impl_Predicate.con {xs0 : List D.Ins} {A0 : Option Addr} {c0 : Nat} {x1 : Int} {r : (List D.Ins) × Bool} {w : World} (hp : M.impl_Predicate_pre xs0 x1) (hr : r = M.impl_Predicate xs0 x1) (R0 : Row el89 w A0 xs0) (hc0 : xs0.length ≤ c0) :
    Cll Tryz.prog 161 #[(.slice A0 xs0.length c0), (.int .i64 x1)] w (fun v_ w_ => ∃ (A0_ : Option Addr) (c0_ : Nat), v_ = (.tuple #[(.slice A0_ r.1.length c0_), (.bool r.2)]) ∧ Own el89 w_ w.heap.size A0_ c0_ r.1 ∧ Ext w w_) := by
  have H := wp.impl_Predicate.math xs0 x1 hp
  have hB := Ext.refl w
  refine impl_Predicate.start ?_
  unfold impl_Predicate.vc
  unfold wp.impl_Predicate at H
  obtain ⟨hp23, H⟩ := H
  obtain ⟨r21, hr22⟩ : ∃ r_, r_ = M.slices_Clone_impl_Ins_impl_Ins xs0 := ⟨_, rfl⟩
  have H := H r21 hr22
  refine (slices_Clone_impl_Ins_impl_Ins.con hp23 hr22 (R0.ext hB) hc0).mono ?_
  rintro _ w24 ⟨A26, c27, rfl, P2, e25⟩
  have O2 := P2.mono hB.size
  have hB := ethen hB e25
  refine ⟨A26, r21.length, c27, rfl, ?_⟩
  obtain ⟨hp30, H⟩ := H
  obtain ⟨r28, hr29⟩ : ∃ r_, r_ = M.impl_CanPredicate xs0 x1 := ⟨_, rfl⟩
  have H := H r28 hr29
  refine (impl_CanPredicate.con hp30 hr29 (R0.ext hB) hc0).mono ?_
  rintro _ w31 ⟨rfl, e32⟩
  have O2 := O2.ext e32
  have hB := ethen hB e32
  refine ⟨r28, rfl, ?_⟩
  refine bcase_mk (fun hc65 => ?_) (fun hc65 => ?_)
  · have H := (bcase_iff.1 H).1 hc65
    obtain rfl := hr.trans H.symm
    exact ⟨A26, c27, rfl, O2, hB⟩
  have H := (bcase_iff.1 H).2 hc65
  obtain ⟨⟨h0_36, h1_37⟩, H⟩ := H
  obtain ⟨a34, ha35, hat33⟩ := Row.at O2.row h0_36 h1_37
  refine ⟨h0_36, h1_37, a34, ha35, ?_⟩
  refine Own.storeAt O2 ha35 h0_36 h1_37 0 [(.int .i64 0), (.int .i64 0), (.int .i64 0), (.int .i64 0)] (⟨0, 0, 0, 0⟩ : D.Ins) rfl (Nat.le_of_ble_eq_true rfl) rfl (fun w38 P2 e39 hb40 => ?_)
  have hB := echg hB e39 hb40
  have O2 := P2
  refine ⟨(fun _ => False), ?_⟩
  obtain ⟨⟨h0_45, h1_46⟩, H⟩ := H
  obtain ⟨a43, ha44, hat42⟩ := Row.at (R0.ext hB) h0_45 h1_46
  refine ⟨h0_45, h1_46, a43, ha44, ?_⟩
  refine ⟨_, ⟨(fun h_ => h_), (hat42 1 _ rfl)⟩, ?_⟩
  obtain ⟨⟨h0_50, h1_51⟩, H⟩ := H
  obtain ⟨a48, ha49, hat47⟩ := Row.at (R0.ext hB) h0_50 h1_51
  refine ⟨h0_50, h1_51, a48, ha49, ?_⟩
  refine ⟨_, ⟨(fun h_ => h_), (hat47 2 _ rfl)⟩, ?_⟩
  obtain ⟨⟨h0_55, h1_56⟩, H⟩ := H
  obtain ⟨a53, ha54, hat52⟩ := Row.at (R0.ext hB) h0_55 h1_56
  refine ⟨h0_55, h1_56, a53, ha54, ?_⟩
  refine ⟨_, ⟨(fun h_ => h_), (hat52 1 _ rfl)⟩, ?_⟩
  obtain ⟨⟨h0_60, h1_61⟩, H⟩ := H
  obtain ⟨a58, ha59, hat57⟩ := Row.at O2.row h0_60 h1_61
  refine ⟨h0_60, (by first | exact h1_61 | omega | (simp at h1_61 ⊢; omega)), a58, ha59, ?_⟩
  have hS41 := Chg.refl (fun _ => False) w38
  have O2 := O2.ext (Ext.drew _)
  have hB := ethen hB (Ext.drew _)
  have hS41 := hS41.then (Ext.drew _)
  refine Own.storeAt O2 ha59 h0_60 h1_61 0 [(.int .i64 9), (.int .i64 ((rd xs0 (IntKind.wrap .i64 (x1 + 1))).A)), (.int .i64 ((rd xs0 (IntKind.wrap .i64 (x1 + 1))).B)), (.int .i64 ((rd xs0 x1).A))] (⟨9, (rd xs0 (IntKind.wrap .i64 (x1 + 1))).A, (rd xs0 (IntKind.wrap .i64 (x1 + 1))).B, (rd xs0 x1).A⟩ : D.Ins) rfl (Nat.le_of_ble_eq_true rfl) rfl (fun w62 P2 e63 hb64 => ?_)
  have hB := echg hB e63 hb64
  have O2 := P2
  obtain rfl := hr.trans H.symm
  exact ⟨A26, c27, (by first | rfl | (simp; done) | (simp; omega) | (simp [*]; done)), (by first | exact O2 | (simp only [List.length_set]; exact O2)), hB⟩
def impl_PredicateAll.vc (A0 : Option Addr) (n0 : Nat) (c0 : Nat) (w : World) (K : Value → World → Prop) : Prop :=
  Cll Tryz.prog 160 #[(.slice A0 n0 c0)] w fun v21 w22 => (∃ (A23 : Option Addr) (n24 : Nat) (c25 : Nat), v21 = (.slice A23 n24 c25) ∧ LoopT (σ := (Option Addr × Nat × Nat) × Int × Int × Unit) (fun z26 w27 next28 => bcase (decide (z26.2.2.1 < ((n0 : Nat) : Int))) (Cll Tryz.prog 161 #[(.slice z26.1.1 z26.1.2.1 z26.1.2.2), (.int .i64 z26.2.2.1)] w27 fun v29 w30 => (∃ u31 : Value, (∃ (A32 : Option Addr) (n33 : Nat) (c34 : Nat), u31 = (.slice A32 n33 c34) ∧ ∃ u35 : Value, (∃ (b36 : Bool), u35 = (.bool b36) ∧ v29 = (.tuple #[(.slice A32 n33 c34), (.bool b36)]) ∧ bcase b36 (next28 ((A32, n33, c34), (IntKind.wrap .i64 (z26.2.1 + 1)), (IntKind.wrap .i64 (z26.2.2.1 + 1)), ()) w30) (next28 ((z26.1.1, z26.1.2.1, z26.1.2.2), z26.2.1, (IntKind.wrap .i64 (z26.2.2.1 + 1)), ()) w30))))) (K (.tuple #[(.slice z26.1.1 z26.1.2.1 z26.1.2.2), (.int .i64 z26.2.1)]) w27)) ((A23, n24, c25), 0, 0, ()) w22)

def impl_PredicateAll.ann : Ann := (.seq .l (.seq .l (.seq .l (.seq (.seq .l (.one (.loop [(4, .sl), (5, .int .i64), (13, .int .i64)] (.seq .l (.seq (.two .l .l) (.seq (.one (.seq .l (.seq .l (.seq .l (.two (.seq .l .l) .l))))) .l)))))) (.seq .l .l)))))

theorem impl_PredicateAll.start {A0 : Option Addr} {n0 : Nat} {c0 : Nat} {w : World} {K : Value → World → Prop} (h : impl_PredicateAll.vc A0 n0 c0 w K) : Cll Tryz.prog 98 #[(.slice A0 n0 c0)] w K :=
  vcF_sound mixed (fn := Tryz.f98) (by kernel_rfl) (by kernel_rfl) (an := impl_PredicateAll.ann) (args := [(.slice A0 n0 c0)]) (Eq.mpr (by kernel_rfl) h)

theorem impl_PredicateAll.con {xs0 : List D.Ins} {A0 : Option Addr} {c0 : Nat} {r : (List D.Ins) × Int} {w : World} (hp : M.impl_PredicateAll_pre xs0) (hr : r = M.impl_PredicateAll xs0) (R0 : Row el89 w A0 xs0) (hc0 : xs0.length ≤ c0) :
    Cll Tryz.prog 98 #[(.slice A0 xs0.length c0)] w (fun v_ w_ => ∃ (A0_ : Option Addr) (c0_ : Nat), v_ = (.tuple #[(.slice A0_ r.1.length c0_), (.int .i64 r.2)]) ∧ Own el89 w_ w.heap.size A0_ c0_ r.1 ∧ Ext w w_) := by
  have H := wp.impl_PredicateAll.math xs0 hp
  have hB := Ext.refl w
  refine impl_PredicateAll.start ?_
  unfold impl_PredicateAll.vc
  unfold wp.impl_PredicateAll at H
  obtain ⟨hp23, H⟩ := H
  obtain ⟨r21, hr22⟩ : ∃ r_, r_ = M.slices_Clone_impl_Ins_impl_Ins xs0 := ⟨_, rfl⟩
  have H := H r21 hr22
  refine (slices_Clone_impl_Ins_impl_Ins.con hp23 hr22 (R0.ext hB) hc0).mono ?_
  rintro _ w24 ⟨A26, c27, rfl, P2, e25⟩
  have O2 := P2.mono hB.size
  have hB := ethen hB e25
  refine ⟨A26, r21.length, c27, rfl, ?_⟩
  obtain ⟨J34, ⟨m55, hJ54⟩, hS35⟩ := H
  refine ⟨fun m_ z_ w_ => ∃ (xs28 : List D.Ins) (i31 : Int) (i32 : Int) (A29 : Option Addr) (c30 : Nat), z_ = ((A29, xs28.length, c30), i31, i32, ()) ∧ J34 m_ (xs28, i31, i32, ()) ∧ Ext w w_ ∧ Own el89 w_ w.heap.size A29 c30 xs28, ⟨m55, r21, 0, 0, A26, c27, rfl, hJ54, hB, O2⟩, ?_⟩
  rintro m33 _ w37 ⟨xs28, i31, i32, A29, c30, rfl, hJ56, hB, O3⟩
  have H := hS35 m33 _ hJ56
  clear hS35 hJ56
  try dsimp only at H ⊢
  refine bcase_mk (fun hc52 => ?_) (fun hc52 => ?_)
  · have H := (bcase_iff.1 H).1 hc52
    obtain ⟨hp40, H⟩ := H
    obtain ⟨r38, hr39⟩ : ∃ r_, r_ = M.impl_Predicate xs28 i32 := ⟨_, rfl⟩
    have H := H r38 hr39
    refine (impl_Predicate.con hp40 hr39 O3.row O3.le).mono ?_
    rintro _ w41 ⟨A43, c44, rfl, P4, e42⟩
    have N3_4 := Own.apart2_new O3 P4 (Nat.le_refl _)
    have O3 := O3.ext e42
    have O4 := P4.mono hB.size
    have hB := ethen hB e42
    refine ⟨(.slice A43 r38.1.length c44), ?_⟩
    refine ⟨A43, r38.1.length, c44, rfl, ?_⟩
    refine ⟨(.bool r38.2), ?_⟩
    refine ⟨r38.2, rfl, ?_⟩
    refine ⟨rfl, ?_⟩
    refine bcase_mk (fun hc51 => ?_) (fun hc51 => ?_)
    · have H := (bcase_iff.1 H).1 hc51
      obtain ⟨m45, hm46, hJ47⟩ := H
      exact ⟨m45, hm46, r38.1, (IntKind.wrap .i64 (i31 + 1)), (IntKind.wrap .i64 (i32 + 1)), A43, c44, rfl, hJ47, hB, O4⟩
    have H := (bcase_iff.1 H).2 hc51
    obtain ⟨m48, hm49, hJ50⟩ := H
    exact ⟨m48, hm49, xs28, i31, (IntKind.wrap .i64 (i32 + 1)), A29, c30, rfl, hJ50, hB, O3⟩
  have H := (bcase_iff.1 H).2 hc52
  obtain rfl := hr.trans H.symm
  exact ⟨A29, c30, rfl, O3, hB⟩
def impl_SavedSplits.vc (A0 : Option Addr) (n0 : Nat) (c0 : Nat) (x1 : Int) (w : World) (K : Value → World → Prop) : Prop :=
  Cll Tryz.prog 98 #[(.slice A0 n0 c0)] w fun v21 w22 => (∃ u23 : Value, (∃ (A24 : Option Addr) (n25 : Nat) (c26 : Nat), u23 = (.slice A24 n25 c26) ∧ ∃ u27 : Value, (∃ (n28 : Int), u27 = (.int .i64 n28) ∧ v21 = (.tuple #[(.slice A24 n25 c26), (.int .i64 n28)]) ∧ Cll Tryz.prog 31 #[(.slice A0 n0 c0), (.int .i64 x1)] w22 fun v29 w30 => (∃ u31 : Value, (∃ (n32 : Int), True ∧ ∃ (n33 : Int), True ∧ ∃ (n34 : Int), True ∧ u31 = (.agg #[(.int .i64 n32), (.int .i64 n33), (.int .i64 n34)]) ∧ ∃ u35 : Value, (∃ (b36 : Bool), u35 = (.bool b36) ∧ v29 = (.tuple #[(.agg #[(.int .i64 n32), (.int .i64 n33), (.int .i64 n34)]), (.bool b36)]) ∧ newK w30 (.cells #[(.int .i64 0), (.int .i64 0), (.int .i64 0)] 46) fun g37 w38 => stCells (⟨g37, 0, none⟩ : Addr) [(.int .i64 n32), (.int .i64 n33), (.int .i64 n34)] 0 w38 fun w39 => Cll Tryz.prog 31 #[(.slice A24 n25 c26), (.int .i64 x1)] w39 fun v40 w41 => (∃ u42 : Value, (∃ (n43 : Int), True ∧ ∃ (n44 : Int), True ∧ ∃ (n45 : Int), True ∧ u42 = (.agg #[(.int .i64 n43), (.int .i64 n44), (.int .i64 n45)]) ∧ ∃ u46 : Value, (∃ (b47 : Bool), u46 = (.bool b47) ∧ v40 = (.tuple #[(.agg #[(.int .i64 n43), (.int .i64 n44), (.int .i64 n45)]), (.bool b47)]) ∧ newK w41 (.cells #[(.int .i64 0), (.int .i64 0), (.int .i64 0)] 46) fun g48 w49 => stCells (⟨g48, 0, none⟩ : Addr) [(.int .i64 n43), (.int .i64 n44), (.int .i64 n45)] 0 w49 fun w50 => bcase (!b36) (K (.int .i64 0) w50) (bcase (!b47) (K (.int .i64 0) w50) (∃ (n51 : Int), w50.cell? (((⟨g37, 0, none⟩ : Addr).add 2).add 0) = some (.int .i64 n51) ∧ ∃ (n52 : Int), w50.cell? (((⟨g48, 0, none⟩ : Addr).add 2).add 0) = some (.int .i64 n52) ∧ K (.int .i64 (IntKind.wrap .i64 (n51 - n52))) w50)))))))))))

def impl_SavedSplits.ann : Ann := (.seq .l (.seq .l (.seq .l (.seq .l (.seq (.seq .l (.two (.seq .l .l) .l)) (.seq .l .l))))))

theorem impl_SavedSplits.start {A0 : Option Addr} {n0 : Nat} {c0 : Nat} {x1 : Int} {w : World} {K : Value → World → Prop} (h : impl_SavedSplits.vc A0 n0 c0 x1 w K) : Cll Tryz.prog 36 #[(.slice A0 n0 c0), (.int .i64 x1)] w K :=
  vcF_sound mixed (fn := Tryz.f36) (by kernel_rfl) (by kernel_rfl) (an := impl_SavedSplits.ann) (args := [(.slice A0 n0 c0), (.int .i64 x1)]) (Eq.mpr (by kernel_rfl) h)

theorem impl_SavedSplits.con {xs0 : List D.Ins} {A0 : Option Addr} {c0 : Nat} {x1 : Int} {r : Int} {w : World} (hp : M.impl_SavedSplits_pre xs0 x1) (hr : r = M.impl_SavedSplits xs0 x1) (R0 : Row el89 w A0 xs0) (hc0 : xs0.length ≤ c0) :
    Cll Tryz.prog 36 #[(.slice A0 xs0.length c0), (.int .i64 x1)] w (fun v_ w_ => v_ = (.int .i64 r) ∧ Ext w w_) := by
  have H := wp.impl_SavedSplits.math xs0 x1 hp
  have hB := Ext.refl w
  refine impl_SavedSplits.start ?_
  unfold impl_SavedSplits.vc
  unfold wp.impl_SavedSplits at H
  obtain ⟨hp23, H⟩ := H
  obtain ⟨r21, hr22⟩ : ∃ r_, r_ = M.impl_PredicateAll xs0 := ⟨_, rfl⟩
  have H := H r21 hr22
  refine (impl_PredicateAll.con hp23 hr22 (R0.ext hB) hc0).mono ?_
  rintro _ w24 ⟨A26, c27, rfl, P2, e25⟩
  have O2 := P2.mono hB.size
  have hB := ethen hB e25
  refine ⟨(.slice A26 r21.1.length c27), ?_⟩
  refine ⟨A26, r21.1.length, c27, rfl, ?_⟩
  refine ⟨(.int .i64 r21.2), ?_⟩
  refine ⟨r21.2, rfl, ?_⟩
  refine ⟨rfl, ?_⟩
  obtain ⟨hp30, H⟩ := H
  obtain ⟨r28, hr29⟩ : ∃ r_, r_ = M.impl_CostOf xs0 x1 := ⟨_, rfl⟩
  have H := H r28 hr29
  refine (impl_CostOf.con hp30 hr29 (R0.ext hB) hc0).mono ?_
  rintro _ w31 ⟨rfl, e32⟩
  have O2 := O2.ext e32
  have hB := ethen hB e32
  refine ⟨(.agg #[(.int .i64 r28.1.Steps), (.int .i64 r28.1.Active), (.int .i64 r28.1.Splits)]), ?_⟩
  refine ⟨r28.1.Steps, trivial, ?_⟩
  refine ⟨r28.1.Active, trivial, ?_⟩
  refine ⟨r28.1.Splits, trivial, ?_⟩
  refine ⟨rfl, ?_⟩
  refine ⟨(.bool r28.2), ?_⟩
  refine ⟨r28.2, rfl, ?_⟩
  refine ⟨rfl, ?_⟩
  refine newBlk (fun g3_ w33 L3 P3 e34 => ?_)
  have N2_3 := O2.apart_new L3
  have O2 := O2.ext e34
  have O3 := P3
  have L3 := Nat.le_trans hB.size L3
  have hB := ethen hB e34
  refine stBlk O3 (o := 0) (cs' := #[(.int .i64 r28.1.Steps), (.int .i64 r28.1.Active), (.int .i64 r28.1.Splits)]) rfl rfl (Nat.le_of_ble_eq_true rfl) rfl (fun w35 P3 e36 => ?_)
  have O2_ := O2.chg e36 N2_3
  have O2 := O2_
  have hB := echg hB e36 L3
  have O3 := P3
  obtain ⟨hp39, H⟩ := H
  obtain ⟨r37, hr38⟩ : ∃ r_, r_ = M.impl_CostOf r21.1 x1 := ⟨_, rfl⟩
  have H := H r37 hr38
  refine (impl_CostOf.con hp39 hr38 O2.row O2.le).mono ?_
  rintro _ w40 ⟨rfl, e41⟩
  have O2 := O2.ext e41
  have O3 := O3.ext e41
  have hB := ethen hB e41
  refine ⟨(.agg #[(.int .i64 r37.1.Steps), (.int .i64 r37.1.Active), (.int .i64 r37.1.Splits)]), ?_⟩
  refine ⟨r37.1.Steps, trivial, ?_⟩
  refine ⟨r37.1.Active, trivial, ?_⟩
  refine ⟨r37.1.Splits, trivial, ?_⟩
  refine ⟨rfl, ?_⟩
  refine ⟨(.bool r37.2), ?_⟩
  refine ⟨r37.2, rfl, ?_⟩
  refine ⟨rfl, ?_⟩
  refine newBlk (fun g4_ w42 L4 P4 e43 => ?_)
  have N2_4 := O2.apart_new L4
  have N3_4 := O3.ne L4
  have O2 := O2.ext e43
  have O3 := O3.ext e43
  have O4 := P4
  have L4 := Nat.le_trans hB.size L4
  have hB := ethen hB e43
  refine stBlk O4 (o := 0) (cs' := #[(.int .i64 r37.1.Steps), (.int .i64 r37.1.Active), (.int .i64 r37.1.Splits)]) rfl rfl (Nat.le_of_ble_eq_true rfl) rfl (fun w44 P4 e45 => ?_)
  have O2_ := O2.chg e45 N2_4
  have O3_ := O3.chg e45 N3_4
  have O2 := O2_
  have O3 := O3_
  have hB := echg hB e45 L4
  have O4 := P4
  refine bcase_mk (fun hc47 => ?_) (fun hc47 => ?_)
  · have H := (bcase_iff.1 H).1 hc47
    obtain rfl := hr.trans H.symm
    exact ⟨rfl, hB⟩
  have H := (bcase_iff.1 H).2 hc47
  refine bcase_mk (fun hc46 => ?_) (fun hc46 => ?_)
  · have H := (bcase_iff.1 H).1 hc46
    obtain rfl := hr.trans H.symm
    exact ⟨rfl, hB⟩
  have H := (bcase_iff.1 H).2 hc46
  refine ⟨_, (O3.at 2 rfl rfl), ?_⟩
  refine ⟨_, (O4.at 2 rfl rfl), ?_⟩
  obtain rfl := hr.trans H.symm
  exact ⟨rfl, hB⟩
def laws_FnExactSavedSplits.vc (A0 : Option Addr) (n0 : Nat) (c0 : Nat) (x1 : Int) (w : World) (K : Value → World → Prop) : Prop :=
  Cll Tryz.prog 15 #[(.slice A0 n0 c0), (.int .i64 1048576)] w fun v21 w22 => (∃ (n23 : Int), v21 = (.int .i64 n23) ∧ bcase (decide (n23 < 0)) (K (.bool true) w22) (Cll Tryz.prog 18 #[(.slice A0 n0 c0)] w22 fun v24 w25 => (∃ (A26 : Option Addr) (n27 : Nat) (c28 : Nat), v24 = (.slice A26 n27 c28) ∧ Cll Tryz.prog 35 #[(.slice A26 n27 c28), (.int .i64 x1)] w25 fun v29 w30 => (∃ (n31 : Int), v29 = (.int .i64 n31) ∧ Cll Tryz.prog 18 #[(.slice A0 n0 c0)] w30 fun v32 w33 => (∃ (A34 : Option Addr) (n35 : Nat) (c36 : Nat), v32 = (.slice A34 n35 c36) ∧ Cll Tryz.prog 36 #[(.slice A34 n35 c36), (.int .i64 x1)] w33 fun v37 w38 => (∃ (n39 : Int), v37 = (.int .i64 n39) ∧ bcase (n39 != n31) (K (.bool false) w38) (Cll Tryz.prog 18 #[(.slice A0 n0 c0)] w38 fun v40 w41 => (∃ (A42 : Option Addr) (n43 : Nat) (c44 : Nat), v40 = (.slice A42 n43 c44) ∧ Cll Tryz.prog 22 #[(.slice A34 n35 c36), (.slice A42 n43 c44)] w41 fun v45 w46 => (∃ (b47 : Bool), v45 = (.bool b47) ∧ bcase (!b47) (K (.bool false) w46) (K (.bool true) w46))))))))))

def laws_FnExactSavedSplits.ann : Ann := (.seq .l (.seq .l (.seq .l (.seq (.seq .l (.two (.seq .l .l) .l)) (.seq .l (.seq .l (.seq .l (.seq (.seq .l (.two (.seq .l .l) .l)) (.seq (.seq .l (.two (.seq .l .l) .l)) (.seq .l .l))))))))))

theorem laws_FnExactSavedSplits.start {A0 : Option Addr} {n0 : Nat} {c0 : Nat} {x1 : Int} {w : World} {K : Value → World → Prop} (h : laws_FnExactSavedSplits.vc A0 n0 c0 x1 w K) : Cll Tryz.prog 8 #[(.slice A0 n0 c0), (.int .i64 x1)] w K :=
  vcF_sound mixed (fn := Tryz.f8) (by kernel_rfl) (by kernel_rfl) (an := laws_FnExactSavedSplits.ann) (args := [(.slice A0 n0 c0), (.int .i64 x1)]) (Eq.mpr (by kernel_rfl) h)

theorem laws_FnExactSavedSplits.con {xs0 : List D.Ins} {A0 : Option Addr} {c0 : Nat} {x1 : Int} {r : Bool} {w : World} (hp : M.laws_FnExactSavedSplits_pre xs0 x1) (hr : r = M.laws_FnExactSavedSplits xs0 x1) (R0 : Row el91 w A0 xs0) (hc0 : xs0.length ≤ c0) :
    Cll Tryz.prog 8 #[(.slice A0 xs0.length c0), (.int .i64 x1)] w (fun v_ w_ => v_ = (.bool r) ∧ Ext w w_) := by
  have H := wp.laws_FnExactSavedSplits.math xs0 x1 hp
  have hB := Ext.refl w
  refine laws_FnExactSavedSplits.start ?_
  unfold laws_FnExactSavedSplits.vc
  unfold wp.laws_FnExactSavedSplits at H
  obtain ⟨hp23, H⟩ := H
  obtain ⟨r21, hr22⟩ : ∃ r_, r_ = M.laws_szInsS xs0 1048576 := ⟨_, rfl⟩
  have H := H r21 hr22
  refine (laws_szInsS.con hp23 hr22 (R0.ext hB) hc0).mono ?_
  rintro _ w24 ⟨rfl, e25⟩
  have hB := ethen hB e25
  refine ⟨r21, rfl, ?_⟩
  refine bcase_mk (fun hc64 => ?_) (fun hc64 => ?_)
  · have H := (bcase_iff.1 H).1 hc64
    obtain rfl := hr.trans H.symm
    exact ⟨rfl, hB⟩
  have H := (bcase_iff.1 H).2 hc64
  obtain ⟨hp28, H⟩ := H
  obtain ⟨r26, hr27⟩ : ∃ r_, r_ = M.laws_toInsS xs0 := ⟨_, rfl⟩
  have H := H r26 hr27
  refine (laws_toInsS.con hp28 hr27 (R0.ext hB) hc0).mono ?_
  rintro _ w29 ⟨A31, c32, rfl, P2, e30⟩
  have O2 := P2.mono hB.size
  have hB := ethen hB e30
  refine ⟨A31, r26.length, c32, rfl, ?_⟩
  obtain ⟨hp35, H⟩ := H
  obtain ⟨r33, hr34⟩ : ∃ r_, r_ = M.spec_SavedSplits r26 x1 := ⟨_, rfl⟩
  have H := H r33 hr34
  refine (spec_SavedSplits.con hp35 hr34 O2.row O2.le).mono ?_
  rintro _ w36 ⟨rfl, e37⟩
  have O2 := O2.ext e37
  have hB := ethen hB e37
  refine ⟨r33, rfl, ?_⟩
  obtain ⟨hp40, H⟩ := H
  obtain ⟨r38, hr39⟩ : ∃ r_, r_ = M.laws_toInsS xs0 := ⟨_, rfl⟩
  have H := H r38 hr39
  refine (laws_toInsS.con hp40 hr39 (R0.ext hB) hc0).mono ?_
  rintro _ w41 ⟨A43, c44, rfl, P3, e42⟩
  have O3 := P3.mono hB.size
  have hB := ethen hB e42
  refine ⟨A43, r38.length, c44, rfl, ?_⟩
  obtain ⟨hp47, H⟩ := H
  obtain ⟨r45, hr46⟩ : ∃ r_, r_ = M.impl_SavedSplits r38 x1 := ⟨_, rfl⟩
  have H := H r45 hr46
  refine (impl_SavedSplits.con hp47 hr46 O3.row O3.le).mono ?_
  rintro _ w48 ⟨rfl, e49⟩
  have O3 := O3.ext e49
  have hB := ethen hB e49
  refine ⟨r45, rfl, ?_⟩
  refine bcase_mk (fun hc63 => ?_) (fun hc63 => ?_)
  · have H := (bcase_iff.1 H).1 hc63
    obtain rfl := hr.trans H.symm
    exact ⟨rfl, hB⟩
  have H := (bcase_iff.1 H).2 hc63
  obtain ⟨hp52, H⟩ := H
  obtain ⟨r50, hr51⟩ : ∃ r_, r_ = M.laws_toInsS xs0 := ⟨_, rfl⟩
  have H := H r50 hr51
  refine (laws_toInsS.con hp52 hr51 (R0.ext hB) hc0).mono ?_
  rintro _ w53 ⟨A55, c56, rfl, P4, e54⟩
  have N3_4 := Own.apart2_new O3 P4 (Nat.le_refl _)
  have O3 := O3.ext e54
  have O4 := P4.mono hB.size
  have hB := ethen hB e54
  refine ⟨A55, r50.length, c56, rfl, ?_⟩
  obtain ⟨hp59, H⟩ := H
  obtain ⟨r57, hr58⟩ : ∃ r_, r_ = M.laws_eqInsS r38 r50 := ⟨_, rfl⟩
  have H := H r57 hr58
  refine (laws_eqInsS.con hp59 hr58 O3.row O3.le O4.row O4.le).mono ?_
  rintro _ w60 ⟨rfl, e61⟩
  have O3 := O3.ext e61
  have O4 := O4.ext e61
  have hB := ethen hB e61
  refine ⟨r57, rfl, ?_⟩
  refine bcase_mk (fun hc62 => ?_) (fun hc62 => ?_)
  · have H := (bcase_iff.1 H).1 hc62
    obtain rfl := hr.trans H.symm
    exact ⟨rfl, hB⟩
  have H := (bcase_iff.1 H).2 hc62
  obtain rfl := hr.trans H.symm
  exact ⟨rfl, hB⟩
end Go.V
