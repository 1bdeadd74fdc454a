import Derived.Test.YtliafnobehfehaaMath15
import Derived.Test.YtliafnobehfehaaSeat
import Derived.Test.YtliafnobehfehaaCon14
namespace Go.V
open Go.Proofs
set_option linter.unusedVariables false
set_option linter.unusedSimpArgs false
set_option maxRecDepth 100000

def spec_l29Ended.vc (A0_0 : Option Addr) (n0_0 : Nat) (c0_0 : Nat) (A0_1 : Option Addr) (n0_1 : Nat) (c0_1 : Nat) (A0_2 : Option Addr) (n0_2 : Nat) (c0_2 : Nat) (x0_3 : Int) (x0_4 : Int) (w : World) (K : Value → World → Prop) : Prop :=
  newK w (.cells #[(.slice A0_0 n0_0 c0_0), (.slice A0_1 n0_1 c0_1), (.slice A0_2 n0_2 c0_2), (.int .i64 x0_3), (.int .i64 x0_4)] 48) fun g21 w22 => LoopT (σ := Int × Unit) (fun z23 w24 next25 => ∃ (A26 : Option Addr) (n27 : Nat) (c28 : Nat), w24.cell? (((⟨g21, 0, none⟩ : Addr).add 1).add 0) = some (.slice A26 n27 c28) ∧ bcase (decide (z23.1 < ((n27 : Nat) : Int))) (∃ (A29 : Option Addr) (n30 : Nat) (c31 : Nat), w24.cell? (((⟨g21, 0, none⟩ : Addr).add 1).add 0) = some (.slice A29 n30 c31) ∧ ((0 : Int) ≤ z23.1 ∧ z23.1 < ((n30 : Nat) : Int) ∧ ∃ a32 : Addr, A29 = some a32 ∧ ∃ (A33 : Option Addr) (n34 : Nat) (c35 : Nat), w24.cell? (((a32.add ((z23.1.toNat) * 3)).add 1).add 0) = some (.slice A33 n34 c35) ∧ bcase (decide (((n34 : Nat) : Int) > 0)) (K (.bool false) w24) (next25 ((IntKind.wrap .i64 (z23.1 + 1)), ()) w24))) (K (.bool true) w24)) (0, ()) w22

def spec_l29Ended.ann : Ann := (.seq .l (.seq (.seq .l (.one (.loop [(3, .int .i64)] (.seq (.seq .l (.two .l .l)) (.seq (.one (.seq .l (.two (.seq .l .l) .l))) .l))))) (.seq .l .l)))

theorem spec_l29Ended.vc_eq (A0_0 : Option Addr) (n0_0 : Nat) (c0_0 : Nat) (A0_1 : Option Addr) (n0_1 : Nat) (c0_1 : Nat) (A0_2 : Option Addr) (n0_2 : Nat) (c0_2 : Nat) (x0_3 : Int) (x0_4 : Int) (w : World) (K : Value → World → Prop) : vcF Try.prog Try.f106 spec_l29Ended.ann [(.agg #[(.slice A0_0 n0_0 c0_0), (.slice A0_1 n0_1 c0_1), (.slice A0_2 n0_2 c0_2), (.int .i64 x0_3), (.int .i64 x0_4)])] K w = spec_l29Ended.vc A0_0 n0_0 c0_0 A0_1 n0_1 c0_1 A0_2 n0_2 c0_2 x0_3 x0_4 w K := by kernel_rfl

theorem spec_l29Ended.start {A0_0 : Option Addr} {n0_0 : Nat} {c0_0 : Nat} {A0_1 : Option Addr} {n0_1 : Nat} {c0_1 : Nat} {A0_2 : Option Addr} {n0_2 : Nat} {c0_2 : Nat} {x0_3 : Int} {x0_4 : Int} {w : World} {K : Value → World → Prop} (h : spec_l29Ended.vc A0_0 n0_0 c0_0 A0_1 n0_1 c0_1 A0_2 n0_2 c0_2 x0_3 x0_4 w K) : Cll Try.prog 106 #[(.agg #[(.slice A0_0 n0_0 c0_0), (.slice A0_1 n0_1 c0_1), (.slice A0_2 n0_2 c0_2), (.int .i64 x0_3), (.int .i64 x0_4)])] w K :=
  vcF_sound mixed (fn := Try.f106) (by kernel_rfl) (by kernel_rfl) (an := spec_l29Ended.ann) (args := [(.agg #[(.slice A0_0 n0_0 c0_0), (.slice A0_1 n0_1 c0_1), (.slice A0_2 n0_2 c0_2), (.int .i64 x0_3), (.int .i64 x0_4)])]) (by rw [spec_l29Ended.vc_eq]; exact h)

theorem spec_l29Ended.con {s0 : D.Block} {A0_0 : Option Addr} {c0_0 : Nat} {A0_1 : Option Addr} {c0_1 : Nat} {A0_2 : Option Addr} {c0_2 : Nat} {r : Bool} {w : World} (hp : M.spec_l29Ended_pre s0) (hr : r = M.spec_l29Ended s0) (R0_0 : Row el99 w A0_0 s0.Code) (hc0_0 : s0.Code.length ≤ c0_0) (R0_1 : RowW 96 el134 el3 w A0_1 s0.Warps) (hc0_1 : s0.Warps.length ≤ c0_1) (R0_2 : Row el3 w A0_2 s0.Memory) (hc0_2 : s0.Memory.length ≤ c0_2) :
    Cll Try.prog 106 #[(.agg #[(.slice A0_0 s0.Code.length c0_0), (.slice A0_1 s0.Warps.length c0_1), (.slice A0_2 s0.Memory.length c0_2), (.int .i64 s0.Waiting), (.int .i64 s0.Phase)])] w (fun v_ w_ => v_ = (.bool r) ∧ Ext w w_) := by
  have H := wp.spec_l29Ended.math s0 hp
  have hB := Ext.refl w
  refine spec_l29Ended.start ?_
  unfold spec_l29Ended.vc
  unfold wp.spec_l29Ended at H
  refine newBlk (fun g4_ w21 L4 P4 e22 => ?_)
  have O4 := P4
  have L4 := Nat.le_trans hB.size L4
  have hB := ethen hB e22
  obtain ⟨J25, ⟨m52, hJ51⟩, hS26⟩ := H
  refine ⟨fun m_ z_ w_ => ∃ (i23 : Int), z_ = (i23, ()) ∧ J25 m_ (i23, ()) ∧ Ext w w_ ∧ Blk w_ g4_ 48 #[(.slice A0_0 s0.Code.length c0_0), (.slice A0_1 s0.Warps.length c0_1), (.slice A0_2 s0.Memory.length c0_2), (.int .i64 s0.Waiting), (.int .i64 s0.Phase)], ⟨m52, 0, rfl, hJ51, hB, O4⟩, ?_⟩
  rintro m24 _ w28 ⟨i23, rfl, hJ53, hB, O4⟩
  have H := hS26 m24 _ hJ53
  clear hS26 hJ53
  dsimp only at H ⊢
  refine ⟨_, _, _, (O4.at 1 rfl rfl), ?_⟩
  refine bcase_mk (fun hc49 => ?_) (fun hc49 => ?_)
  · have H := (bcase_iff.1 H).1 hc49
    refine ⟨_, _, _, (O4.at 1 rfl rfl), ?_⟩
    obtain ⟨⟨h0_32, h1_33⟩, H⟩ := H
    obtain ⟨a30, ha31, A37, c38, A39, c40, f34, f35, f36, R41, hle43, R42, hle44⟩ := RowW.at R0_1 h0_32 h1_33
    refine ⟨h0_32, h1_33, a30, ha31, ?_⟩
    refine ⟨_, _, _, (Ext.cell hB f35), ?_⟩
    refine bcase_mk (fun hc48 => ?_) (fun hc48 => ?_)
    · have H := (bcase_iff.1 H).1 hc48
      obtain rfl := hr.trans H.symm
      exact ⟨rfl, hB⟩
    · have H := (bcase_iff.1 H).2 hc48
      obtain ⟨m45, hm46, hJ47⟩ := H
      exact ⟨m45, hm46, (IntKind.wrap .i64 (i23 + 1)), rfl, hJ47, hB, O4⟩
  · have H := (bcase_iff.1 H).2 hc49
    obtain rfl := hr.trans H.symm
    exact ⟨rfl, hB⟩

def spec_BlockEnded.vc (A0_0 : Option Addr) (n0_0 : Nat) (c0_0 : Nat) (A0_1 : Option Addr) (n0_1 : Nat) (c0_1 : Nat) (A0_2 : Option Addr) (n0_2 : Nat) (c0_2 : Nat) (x0_3 : Int) (x0_4 : Int) (w : World) (K : Value → World → Prop) : Prop :=
  newK w (.cells #[(.slice A0_0 n0_0 c0_0), (.slice A0_1 n0_1 c0_1), (.slice A0_2 n0_2 c0_2), (.int .i64 x0_3), (.int .i64 x0_4)] 48) fun g21 w22 => ∃ (A23 : Option Addr) (n24 : Nat) (c25 : Nat), w22.cell? ((⟨g21, 0, none⟩ : Addr).add 0) = some (.slice A23 n24 c25) ∧ ∃ (A26 : Option Addr) (n27 : Nat) (c28 : Nat), w22.cell? ((⟨g21, 0, none⟩ : Addr).add 1) = some (.slice A26 n27 c28) ∧ ∃ (A29 : Option Addr) (n30 : Nat) (c31 : Nat), w22.cell? ((⟨g21, 0, none⟩ : Addr).add 2) = some (.slice A29 n30 c31) ∧ ∃ (n32 : Int), w22.cell? ((⟨g21, 0, none⟩ : Addr).add 3) = some (.int .i64 n32) ∧ ∃ (n33 : Int), w22.cell? ((⟨g21, 0, none⟩ : Addr).add 4) = some (.int .i64 n33) ∧ Cll Try.prog 38 #[(.agg #[(.slice A23 n24 c25), (.slice A26 n27 c28), (.slice A29 n30 c31), (.int .i64 n32), (.int .i64 n33)])] w22 fun v34 w35 => (∃ (b36 : Bool), v34 = (.bool b36) ∧ bcase b36 (∃ (A37 : Option Addr) (n38 : Nat) (c39 : Nat), w35.cell? ((⟨g21, 0, none⟩ : Addr).add 0) = some (.slice A37 n38 c39) ∧ ∃ (A40 : Option Addr) (n41 : Nat) (c42 : Nat), w35.cell? ((⟨g21, 0, none⟩ : Addr).add 1) = some (.slice A40 n41 c42) ∧ ∃ (A43 : Option Addr) (n44 : Nat) (c45 : Nat), w35.cell? ((⟨g21, 0, none⟩ : Addr).add 2) = some (.slice A43 n44 c45) ∧ ∃ (n46 : Int), w35.cell? ((⟨g21, 0, none⟩ : Addr).add 3) = some (.int .i64 n46) ∧ ∃ (n47 : Int), w35.cell? ((⟨g21, 0, none⟩ : Addr).add 4) = some (.int .i64 n47) ∧ Cll Try.prog 106 #[(.agg #[(.slice A37 n38 c39), (.slice A40 n41 c42), (.slice A43 n44 c45), (.int .i64 n46), (.int .i64 n47)])] w35 fun v48 w49 => (∃ (b50 : Bool), v48 = (.bool b50) ∧ K (.bool b50) w49)) (K (.bool false) w35))

def spec_BlockEnded.ann : Ann := (.seq .l (.seq .l .l))

theorem spec_BlockEnded.vc_eq (A0_0 : Option Addr) (n0_0 : Nat) (c0_0 : Nat) (A0_1 : Option Addr) (n0_1 : Nat) (c0_1 : Nat) (A0_2 : Option Addr) (n0_2 : Nat) (c0_2 : Nat) (x0_3 : Int) (x0_4 : Int) (w : World) (K : Value → World → Prop) : vcF Try.prog Try.f48 spec_BlockEnded.ann [(.agg #[(.slice A0_0 n0_0 c0_0), (.slice A0_1 n0_1 c0_1), (.slice A0_2 n0_2 c0_2), (.int .i64 x0_3), (.int .i64 x0_4)])] K w = spec_BlockEnded.vc A0_0 n0_0 c0_0 A0_1 n0_1 c0_1 A0_2 n0_2 c0_2 x0_3 x0_4 w K := by kernel_rfl

theorem spec_BlockEnded.start {A0_0 : Option Addr} {n0_0 : Nat} {c0_0 : Nat} {A0_1 : Option Addr} {n0_1 : Nat} {c0_1 : Nat} {A0_2 : Option Addr} {n0_2 : Nat} {c0_2 : Nat} {x0_3 : Int} {x0_4 : Int} {w : World} {K : Value → World → Prop} (h : spec_BlockEnded.vc A0_0 n0_0 c0_0 A0_1 n0_1 c0_1 A0_2 n0_2 c0_2 x0_3 x0_4 w K) : Cll Try.prog 48 #[(.agg #[(.slice A0_0 n0_0 c0_0), (.slice A0_1 n0_1 c0_1), (.slice A0_2 n0_2 c0_2), (.int .i64 x0_3), (.int .i64 x0_4)])] w K :=
  vcF_sound mixed (fn := Try.f48) (by kernel_rfl) (by kernel_rfl) (an := spec_BlockEnded.ann) (args := [(.agg #[(.slice A0_0 n0_0 c0_0), (.slice A0_1 n0_1 c0_1), (.slice A0_2 n0_2 c0_2), (.int .i64 x0_3), (.int .i64 x0_4)])]) (by rw [spec_BlockEnded.vc_eq]; exact h)

theorem spec_BlockEnded.con {s0 : D.Block} {A0_0 : Option Addr} {c0_0 : Nat} {A0_1 : Option Addr} {c0_1 : Nat} {A0_2 : Option Addr} {c0_2 : Nat} {r : Bool} {w : World} (hp : M.spec_BlockEnded_pre s0) (hr : r = M.spec_BlockEnded s0) (R0_0 : Row el99 w A0_0 s0.Code) (hc0_0 : s0.Code.length ≤ c0_0) (R0_1 : RowW 96 el134 el3 w A0_1 s0.Warps) (hc0_1 : s0.Warps.length ≤ c0_1) (R0_2 : Row el3 w A0_2 s0.Memory) (hc0_2 : s0.Memory.length ≤ c0_2) :
    Cll Try.prog 48 #[(.agg #[(.slice A0_0 s0.Code.length c0_0), (.slice A0_1 s0.Warps.length c0_1), (.slice A0_2 s0.Memory.length c0_2), (.int .i64 s0.Waiting), (.int .i64 s0.Phase)])] w (fun v_ w_ => v_ = (.bool r) ∧ Ext w w_) := by
  have H := wp.spec_BlockEnded.math s0 hp
  have hB := Ext.refl w
  refine spec_BlockEnded.start ?_
  unfold spec_BlockEnded.vc
  unfold wp.spec_BlockEnded at H
  refine newBlk (fun g4_ w21 L4 P4 e22 => ?_)
  have O4 := P4
  have L4 := Nat.le_trans hB.size L4
  have hB := ethen hB e22
  refine ⟨_, _, _, (O4.at 0 rfl rfl), ?_⟩
  refine ⟨_, _, _, (O4.at 1 rfl rfl), ?_⟩
  refine ⟨_, _, _, (O4.at 2 rfl rfl), ?_⟩
  refine ⟨_, (O4.at 3 rfl rfl), ?_⟩
  refine ⟨_, (O4.at 4 rfl rfl), ?_⟩
  obtain ⟨hp25, H⟩ := H
  obtain ⟨r23, hr24⟩ : ∃ r_, r_ = M.spec_BlockOk s0 := ⟨_, rfl⟩
  have H := H r23 hr24
  refine (spec_BlockOk.con hp25 hr24 (R0_0.ext hB) hc0_0 (R0_1.ext hB) hc0_1 (R0_2.ext hB) hc0_2).mono ?_
  rintro _ w26 ⟨rfl, e27⟩
  have O4 := O4.ext e27
  have hB := ethen hB e27
  refine ⟨r23, rfl, ?_⟩
  refine bcase_mk (fun hc33 => ?_) (fun hc33 => ?_)
  · have H := (bcase_iff.1 H).1 hc33
    refine ⟨_, _, _, (O4.at 0 rfl rfl), ?_⟩
    refine ⟨_, _, _, (O4.at 1 rfl rfl), ?_⟩
    refine ⟨_, _, _, (O4.at 2 rfl rfl), ?_⟩
    refine ⟨_, (O4.at 3 rfl rfl), ?_⟩
    refine ⟨_, (O4.at 4 rfl rfl), ?_⟩
    obtain ⟨hp30, H⟩ := H
    obtain ⟨r28, hr29⟩ : ∃ r_, r_ = M.spec_l29Ended s0 := ⟨_, rfl⟩
    have H := H r28 hr29
    refine (spec_l29Ended.con hp30 hr29 (R0_0.ext hB) hc0_0 (R0_1.ext hB) hc0_1 (R0_2.ext hB) hc0_2).mono ?_
    rintro _ w31 ⟨rfl, e32⟩
    have O4 := O4.ext e32
    have hB := ethen hB e32
    refine ⟨r28, rfl, ?_⟩
    obtain rfl := hr.trans H.symm
    exact ⟨rfl, hB⟩
  · have H := (bcase_iff.1 H).2 hc33
    obtain rfl := hr.trans H.symm
    exact ⟨rfl, hB⟩

def slices_IndexFunc_impl_Warp_impl_Warp.vc (A0 : Option Addr) (n0 : Nat) (c0 : Nat) (f1 : Nat) (cap1 : Array Value) (w : World) (K : Value → World → Prop) : Prop :=
  LoopT (σ := Int × Unit) (fun z21 w22 next23 => bcase (decide (z21.1 < ((n0 : Nat) : Int))) (((0 : Int) ≤ z21.1 ∧ z21.1 < ((n0 : Nat) : Int) ∧ ∃ a24 : Addr, A0 = some a24 ∧ ∃ (n25 : Int), w22.cell? ((a24.add ((z21.1.toNat) * 3)).add 0) = some (.int .i64 n25) ∧ ∃ (A26 : Option Addr) (n27 : Nat) (c28 : Nat), w22.cell? ((a24.add ((z21.1.toNat) * 3)).add 1) = some (.slice A26 n27 c28) ∧ ∃ (A29 : Option Addr) (n30 : Nat) (c31 : Nat), w22.cell? ((a24.add ((z21.1.toNat) * 3)).add 2) = some (.slice A29 n30 c31) ∧ Cll Try.prog f1 (#[(.agg #[(.int .i64 n25), (.slice A26 n27 c28), (.slice A29 n30 c31)])] ++ cap1) w22 fun v32 w33 => (∃ (b34 : Bool), v32 = (.bool b34) ∧ bcase b34 (K (.int .i64 z21.1) w33) (next23 ((IntKind.wrap .i64 (z21.1 + 1)), ()) w33)))) (K (.int .i64 (-1)) w22)) (0, ()) w

def slices_IndexFunc_impl_Warp_impl_Warp.ann : Ann := (.seq .l (.seq (.seq .l (.one (.loop [(8, .int .i64)] (.seq .l (.seq (.two .l .l) (.seq (.one (.seq .l (.seq .l (.two (.seq .l .l) .l)))) .l)))))) (.seq .l .l)))

theorem slices_IndexFunc_impl_Warp_impl_Warp.vc_eq (A0 : Option Addr) (n0 : Nat) (c0 : Nat) (f1 : Nat) (cap1 : Array Value) (w : World) (K : Value → World → Prop) : vcF Try.prog Try.f161 slices_IndexFunc_impl_Warp_impl_Warp.ann [(.slice A0 n0 c0), (.func (.func f1) #[] cap1)] K w = slices_IndexFunc_impl_Warp_impl_Warp.vc A0 n0 c0 f1 cap1 w K := by kernel_rfl

theorem slices_IndexFunc_impl_Warp_impl_Warp.start {A0 : Option Addr} {n0 : Nat} {c0 : Nat} {f1 : Nat} {cap1 : Array Value} {w : World} {K : Value → World → Prop} (h : slices_IndexFunc_impl_Warp_impl_Warp.vc A0 n0 c0 f1 cap1 w K) : Cll Try.prog 161 #[(.slice A0 n0 c0), (.func (.func f1) #[] cap1)] w K :=
  vcF_sound mixed (fn := Try.f161) (by kernel_rfl) (by kernel_rfl) (an := slices_IndexFunc_impl_Warp_impl_Warp.ann) (args := [(.slice A0 n0 c0), (.func (.func f1) #[] cap1)]) (by rw [slices_IndexFunc_impl_Warp_impl_Warp.vc_eq]; exact h)

theorem slices_IndexFunc_impl_Warp_impl_Warp.con {xs0 : List D.Warp} {A0 : Option Addr} {c0 : Nat} {f1 : Nat} {cap1 : Array Value} {g1 : D.Warp → Bool} {D1 : D.Warp → Prop} {r : Int} {w : World} (hp : M.slices_IndexFunc_impl_Warp_impl_Warp_pre xs0 g1 D1) (hr : r = M.slices_IndexFunc_impl_Warp_impl_Warp xs0 g1) (R0 : RowW 96 el134 el3 w A0 xs0) (hc0 : xs0.length ≤ c0) (F1 : ∀ (z0_ : D.Warp) (Az0_1 : Option Addr) (cz0_1 : Nat) (Az0_2 : Option Addr) (cz0_2 : Nat), D1 z0_ → ∀ w_ : World, Ext w w_ → Row el134 w_ Az0_1 z0_.Frames → z0_.Frames.length ≤ cz0_1 → Row el3 w_ Az0_2 z0_.Regs → z0_.Regs.length ≤ cz0_2 → Cll Try.prog f1 (#[(.agg #[(.int .i64 z0_.Number), (.slice Az0_1 z0_.Frames.length cz0_1), (.slice Az0_2 z0_.Regs.length cz0_2)])] ++ cap1) w_ (fun v_ w1_ => v_ = (.bool (g1 z0_)) ∧ Ext w_ w1_)) :
    Cll Try.prog 161 #[(.slice A0 xs0.length c0), (.func (.func f1) #[] cap1)] w (fun v_ w_ => v_ = (.int .i64 r) ∧ Ext w w_) := by
  have H := wp.slices_IndexFunc_impl_Warp_impl_Warp.math xs0 g1 D1 hp
  have hB := Ext.refl w
  refine slices_IndexFunc_impl_Warp_impl_Warp.start ?_
  unfold slices_IndexFunc_impl_Warp_impl_Warp.vc
  unfold wp.slices_IndexFunc_impl_Warp_impl_Warp at H
  obtain ⟨J23, ⟨m55, hJ54⟩, hS24⟩ := H
  refine ⟨fun m_ z_ w_ => ∃ (i21 : Int), z_ = (i21, ()) ∧ J23 m_ (i21, ()) ∧ Ext w w_, ⟨m55, 0, rfl, hJ54, hB⟩, ?_⟩
  rintro m22 _ w26 ⟨i21, rfl, hJ56, hB⟩
  have H := hS24 m22 _ hJ56
  clear hS24 hJ56
  dsimp only at H ⊢
  refine bcase_mk (fun hc52 => ?_) (fun hc52 => ?_)
  · have H := (bcase_iff.1 H).1 hc52
    obtain ⟨⟨h0_30, h1_31⟩, H⟩ := H
    obtain ⟨a28, ha29, A35, c36, A37, c38, f32, f33, f34, R39, hle41, R40, hle42⟩ := RowW.at R0 h0_30 h1_31
    refine ⟨h0_30, h1_31, a28, ha29, ?_⟩
    refine ⟨_, (Ext.cell hB f32), ?_⟩
    refine ⟨_, _, _, (Ext.cell hB f33), ?_⟩
    refine ⟨_, _, _, (Ext.cell hB f34), ?_⟩
    obtain ⟨hd45, H⟩ := H
    obtain ⟨r43, hr44⟩ : ∃ r_, r_ = g1 (rd xs0 i21) := ⟨_, rfl⟩
    have H := H r43 hr44
    refine (F1 (rd xs0 i21) _ _ _ _ hd45 _ hB (R39.ext hB) hle41 (R40.ext hB) hle42).mono ?_
    rintro _ w46 ⟨rfl, e47⟩
    rw [← hr44]
    have hB := ethen hB e47
    refine ⟨r43, rfl, ?_⟩
    refine bcase_mk (fun hc51 => ?_) (fun hc51 => ?_)
    · have H := (bcase_iff.1 H).1 hc51
      obtain rfl := hr.trans H.symm
      exact ⟨rfl, hB⟩
    · have H := (bcase_iff.1 H).2 hc51
      obtain ⟨m48, hm49, hJ50⟩ := H
      exact ⟨m48, hm49, (IntKind.wrap .i64 (i21 + 1)), rfl, hJ50, hB⟩
  · have H := (bcase_iff.1 H).2 hc52
    obtain rfl := hr.trans H.symm
    exact ⟨rfl, hB⟩

def slices_ContainsFunc_impl_Warp_impl_Warp.vc (A0 : Option Addr) (n0 : Nat) (c0 : Nat) (f1 : Nat) (cap1 : Array Value) (w : World) (K : Value → World → Prop) : Prop :=
  Cll Try.prog 161 #[(.slice A0 n0 c0), (.func (.func f1) #[] cap1)] w fun v21 w22 => (∃ (n23 : Int), v21 = (.int .i64 n23) ∧ K (.bool (decide (n23 ≥ 0))) w22)

def slices_ContainsFunc_impl_Warp_impl_Warp.ann : Ann := (.seq .l (.seq .l .l))

theorem slices_ContainsFunc_impl_Warp_impl_Warp.vc_eq (A0 : Option Addr) (n0 : Nat) (c0 : Nat) (f1 : Nat) (cap1 : Array Value) (w : World) (K : Value → World → Prop) : vcF Try.prog Try.f139 slices_ContainsFunc_impl_Warp_impl_Warp.ann [(.slice A0 n0 c0), (.func (.func f1) #[] cap1)] K w = slices_ContainsFunc_impl_Warp_impl_Warp.vc A0 n0 c0 f1 cap1 w K := by kernel_rfl

theorem slices_ContainsFunc_impl_Warp_impl_Warp.start {A0 : Option Addr} {n0 : Nat} {c0 : Nat} {f1 : Nat} {cap1 : Array Value} {w : World} {K : Value → World → Prop} (h : slices_ContainsFunc_impl_Warp_impl_Warp.vc A0 n0 c0 f1 cap1 w K) : Cll Try.prog 139 #[(.slice A0 n0 c0), (.func (.func f1) #[] cap1)] w K :=
  vcF_sound mixed (fn := Try.f139) (by kernel_rfl) (by kernel_rfl) (an := slices_ContainsFunc_impl_Warp_impl_Warp.ann) (args := [(.slice A0 n0 c0), (.func (.func f1) #[] cap1)]) (by rw [slices_ContainsFunc_impl_Warp_impl_Warp.vc_eq]; exact h)

theorem slices_ContainsFunc_impl_Warp_impl_Warp.con {xs0 : List D.Warp} {A0 : Option Addr} {c0 : Nat} {f1 : Nat} {cap1 : Array Value} {g1 : D.Warp → Bool} {D1 : D.Warp → Prop} {r : Bool} {w : World} (hp : M.slices_ContainsFunc_impl_Warp_impl_Warp_pre xs0 g1 D1) (hr : r = M.slices_ContainsFunc_impl_Warp_impl_Warp xs0 g1) (R0 : RowW 96 el134 el3 w A0 xs0) (hc0 : xs0.length ≤ c0) (F1 : ∀ (z0_ : D.Warp) (Az0_1 : Option Addr) (cz0_1 : Nat) (Az0_2 : Option Addr) (cz0_2 : Nat), D1 z0_ → ∀ w_ : World, Ext w w_ → Row el134 w_ Az0_1 z0_.Frames → z0_.Frames.length ≤ cz0_1 → Row el3 w_ Az0_2 z0_.Regs → z0_.Regs.length ≤ cz0_2 → Cll Try.prog f1 (#[(.agg #[(.int .i64 z0_.Number), (.slice Az0_1 z0_.Frames.length cz0_1), (.slice Az0_2 z0_.Regs.length cz0_2)])] ++ cap1) w_ (fun v_ w1_ => v_ = (.bool (g1 z0_)) ∧ Ext w_ w1_)) :
    Cll Try.prog 139 #[(.slice A0 xs0.length c0), (.func (.func f1) #[] cap1)] w (fun v_ w_ => v_ = (.bool r) ∧ Ext w w_) := by
  have H := wp.slices_ContainsFunc_impl_Warp_impl_Warp.math xs0 g1 D1 hp
  have hB := Ext.refl w
  refine slices_ContainsFunc_impl_Warp_impl_Warp.start ?_
  unfold slices_ContainsFunc_impl_Warp_impl_Warp.vc
  unfold wp.slices_ContainsFunc_impl_Warp_impl_Warp at H
  obtain ⟨hp23, H⟩ := H
  obtain ⟨r21, hr22⟩ : ∃ r_, r_ = M.slices_IndexFunc_impl_Warp_impl_Warp xs0 g1 := ⟨_, rfl⟩
  have H := H r21 hr22
  refine (slices_IndexFunc_impl_Warp_impl_Warp.con hp23 hr22 (R0.ext hB) hc0 (fun z0_ Az0_1 cz0_1 Az0_2 cz0_2 h_ w_ e_ => F1 z0_ Az0_1 cz0_1 Az0_2 cz0_2 h_ w_ (ethen hB e_))).mono ?_
  rintro _ w24 ⟨rfl, e25⟩
  have hB := ethen hB e25
  refine ⟨r21, rfl, ?_⟩
  obtain rfl := hr.trans H.symm
  exact ⟨rfl, hB⟩

def impl_Block_ended_1.vc (x0_0 : Int) (A0_1 : Option Addr) (n0_1 : Nat) (c0_1 : Nat) (A0_2 : Option Addr) (n0_2 : Nat) (c0_2 : Nat) (w : World) (K : Value → World → Prop) : Prop :=
  newK w (.cells #[(.int .i64 x0_0), (.slice A0_1 n0_1 c0_1), (.slice A0_2 n0_2 c0_2)] 96) fun g21 w22 => ∃ (A23 : Option Addr) (n24 : Nat) (c25 : Nat), w22.cell? (((⟨g21, 0, none⟩ : Addr).add 1).add 0) = some (.slice A23 n24 c25) ∧ K (.bool (decide (((n24 : Nat) : Int) > 0))) w22

def impl_Block_ended_1.ann : Ann := (.seq .l (.seq .l .l))

theorem impl_Block_ended_1.vc_eq (x0_0 : Int) (A0_1 : Option Addr) (n0_1 : Nat) (c0_1 : Nat) (A0_2 : Option Addr) (n0_2 : Nat) (c0_2 : Nat) (w : World) (K : Value → World → Prop) : vcF Try.prog Try.f140 impl_Block_ended_1.ann [(.agg #[(.int .i64 x0_0), (.slice A0_1 n0_1 c0_1), (.slice A0_2 n0_2 c0_2)])] K w = impl_Block_ended_1.vc x0_0 A0_1 n0_1 c0_1 A0_2 n0_2 c0_2 w K := by kernel_rfl

theorem impl_Block_ended_1.start {x0_0 : Int} {A0_1 : Option Addr} {n0_1 : Nat} {c0_1 : Nat} {A0_2 : Option Addr} {n0_2 : Nat} {c0_2 : Nat} {w : World} {K : Value → World → Prop} (h : impl_Block_ended_1.vc x0_0 A0_1 n0_1 c0_1 A0_2 n0_2 c0_2 w K) : Cll Try.prog 140 #[(.agg #[(.int .i64 x0_0), (.slice A0_1 n0_1 c0_1), (.slice A0_2 n0_2 c0_2)])] w K :=
  vcF_sound mixed (fn := Try.f140) (by kernel_rfl) (by kernel_rfl) (an := impl_Block_ended_1.ann) (args := [(.agg #[(.int .i64 x0_0), (.slice A0_1 n0_1 c0_1), (.slice A0_2 n0_2 c0_2)])]) (by rw [impl_Block_ended_1.vc_eq]; exact h)

theorem impl_Block_ended_1.con {s0 : D.Warp} {A0_1 : Option Addr} {c0_1 : Nat} {A0_2 : Option Addr} {c0_2 : Nat} {r : Bool} {w : World} (hp : M.impl_Block_ended_1_pre s0) (hr : r = M.impl_Block_ended_1 s0) (R0_1 : Row el134 w A0_1 s0.Frames) (hc0_1 : s0.Frames.length ≤ c0_1) (R0_2 : Row el3 w A0_2 s0.Regs) (hc0_2 : s0.Regs.length ≤ c0_2) :
    Cll Try.prog 140 #[(.agg #[(.int .i64 s0.Number), (.slice A0_1 s0.Frames.length c0_1), (.slice A0_2 s0.Regs.length c0_2)])] w (fun v_ w_ => v_ = (.bool r) ∧ Ext w w_) := by
  have H := wp.impl_Block_ended_1.math s0 hp
  have hB := Ext.refl w
  refine impl_Block_ended_1.start ?_
  unfold impl_Block_ended_1.vc
  unfold wp.impl_Block_ended_1 at H
  refine newBlk (fun g3_ w21 L3 P3 e22 => ?_)
  have O3 := P3
  have L3 := Nat.le_trans hB.size L3
  have hB := ethen hB e22
  refine ⟨_, _, _, (O3.at 1 rfl rfl), ?_⟩
  obtain rfl := hr.trans H.symm
  exact ⟨rfl, hB⟩

def impl_Block_ended.vc (A0_0 : Option Addr) (n0_0 : Nat) (c0_0 : Nat) (A0_1 : Option Addr) (n0_1 : Nat) (c0_1 : Nat) (A0_2 : Option Addr) (n0_2 : Nat) (c0_2 : Nat) (x0_3 : Int) (x0_4 : Int) (w : World) (K : Value → World → Prop) : Prop :=
  newK w (.cells #[(.slice A0_0 n0_0 c0_0), (.slice A0_1 n0_1 c0_1), (.slice A0_2 n0_2 c0_2), (.int .i64 x0_3), (.int .i64 x0_4)] 48) fun g21 w22 => ∃ (A23 : Option Addr) (n24 : Nat) (c25 : Nat), w22.cell? (((⟨g21, 0, none⟩ : Addr).add 1).add 0) = some (.slice A23 n24 c25) ∧ Cll Try.prog 139 #[(.slice A23 n24 c25), (.func (.func 140) #[] #[])] w22 fun v26 w27 => (∃ (b28 : Bool), v26 = (.bool b28) ∧ K (.bool (!b28)) w27)

def impl_Block_ended.ann : Ann := (.seq .l (.seq .l .l))

theorem impl_Block_ended.vc_eq (A0_0 : Option Addr) (n0_0 : Nat) (c0_0 : Nat) (A0_1 : Option Addr) (n0_1 : Nat) (c0_1 : Nat) (A0_2 : Option Addr) (n0_2 : Nat) (c0_2 : Nat) (x0_3 : Int) (x0_4 : Int) (w : World) (K : Value → World → Prop) : vcF Try.prog Try.f107 impl_Block_ended.ann [(.agg #[(.slice A0_0 n0_0 c0_0), (.slice A0_1 n0_1 c0_1), (.slice A0_2 n0_2 c0_2), (.int .i64 x0_3), (.int .i64 x0_4)])] K w = impl_Block_ended.vc A0_0 n0_0 c0_0 A0_1 n0_1 c0_1 A0_2 n0_2 c0_2 x0_3 x0_4 w K := by kernel_rfl

theorem impl_Block_ended.start {A0_0 : Option Addr} {n0_0 : Nat} {c0_0 : Nat} {A0_1 : Option Addr} {n0_1 : Nat} {c0_1 : Nat} {A0_2 : Option Addr} {n0_2 : Nat} {c0_2 : Nat} {x0_3 : Int} {x0_4 : Int} {w : World} {K : Value → World → Prop} (h : impl_Block_ended.vc A0_0 n0_0 c0_0 A0_1 n0_1 c0_1 A0_2 n0_2 c0_2 x0_3 x0_4 w K) : Cll Try.prog 107 #[(.agg #[(.slice A0_0 n0_0 c0_0), (.slice A0_1 n0_1 c0_1), (.slice A0_2 n0_2 c0_2), (.int .i64 x0_3), (.int .i64 x0_4)])] w K :=
  vcF_sound mixed (fn := Try.f107) (by kernel_rfl) (by kernel_rfl) (an := impl_Block_ended.ann) (args := [(.agg #[(.slice A0_0 n0_0 c0_0), (.slice A0_1 n0_1 c0_1), (.slice A0_2 n0_2 c0_2), (.int .i64 x0_3), (.int .i64 x0_4)])]) (by rw [impl_Block_ended.vc_eq]; exact h)

theorem impl_Block_ended.con {s0 : D.Block} {A0_0 : Option Addr} {c0_0 : Nat} {A0_1 : Option Addr} {c0_1 : Nat} {A0_2 : Option Addr} {c0_2 : Nat} {r : Bool} {w : World} (hp : M.impl_Block_ended_pre s0) (hr : r = M.impl_Block_ended s0) (R0_0 : Row el99 w A0_0 s0.Code) (hc0_0 : s0.Code.length ≤ c0_0) (R0_1 : RowW 96 el134 el3 w A0_1 s0.Warps) (hc0_1 : s0.Warps.length ≤ c0_1) (R0_2 : Row el3 w A0_2 s0.Memory) (hc0_2 : s0.Memory.length ≤ c0_2) :
    Cll Try.prog 107 #[(.agg #[(.slice A0_0 s0.Code.length c0_0), (.slice A0_1 s0.Warps.length c0_1), (.slice A0_2 s0.Memory.length c0_2), (.int .i64 s0.Waiting), (.int .i64 s0.Phase)])] w (fun v_ w_ => v_ = (.bool r) ∧ Ext w w_) := by
  have H := wp.impl_Block_ended.math s0 hp
  have hB := Ext.refl w
  refine impl_Block_ended.start ?_
  unfold impl_Block_ended.vc
  unfold wp.impl_Block_ended at H
  refine newBlk (fun g4_ w21 L4 P4 e22 => ?_)
  have O4 := P4
  have L4 := Nat.le_trans hB.size L4
  have hB := ethen hB e22
  refine ⟨_, _, _, (O4.at 1 rfl rfl), ?_⟩
  obtain ⟨hp25, H⟩ := H
  obtain ⟨r23, hr24⟩ : ∃ r_, r_ = M.slices_ContainsFunc_impl_Warp_impl_Warp s0.Warps (fun z0_ => M.impl_Block_ended_1 z0_) := ⟨_, rfl⟩
  have H := H r23 hr24
  refine (slices_ContainsFunc_impl_Warp_impl_Warp.con hp25 hr24 (R0_1.ext hB) hc0_1 (fun z0_ Az0_1 cz0_1 Az0_2 cz0_2 h_ w_ e_ rz0_1 lz0_1 rz0_2 lz0_2 => cllApp (l1 := [_]) (l2 := []) (impl_Block_ended_1.con h_ rfl rz0_1 lz0_1 rz0_2 lz0_2))).mono ?_
  rintro _ w26 ⟨rfl, e27⟩
  have O4 := O4.ext e27
  have hB := ethen hB e27
  refine ⟨r23, rfl, ?_⟩
  obtain rfl := hr.trans H.symm
  exact ⟨rfl, hB⟩

def impl_BlockEnded.vc (A0_0 : Option Addr) (n0_0 : Nat) (c0_0 : Nat) (A0_1 : Option Addr) (n0_1 : Nat) (c0_1 : Nat) (A0_2 : Option Addr) (n0_2 : Nat) (c0_2 : Nat) (x0_3 : Int) (x0_4 : Int) (w : World) (K : Value → World → Prop) : Prop :=
  newK w (.cells #[(.slice A0_0 n0_0 c0_0), (.slice A0_1 n0_1 c0_1), (.slice A0_2 n0_2 c0_2), (.int .i64 x0_3), (.int .i64 x0_4)] 48) fun g21 w22 => ∃ (A23 : Option Addr) (n24 : Nat) (c25 : Nat), w22.cell? ((⟨g21, 0, none⟩ : Addr).add 0) = some (.slice A23 n24 c25) ∧ ∃ (A26 : Option Addr) (n27 : Nat) (c28 : Nat), w22.cell? ((⟨g21, 0, none⟩ : Addr).add 1) = some (.slice A26 n27 c28) ∧ ∃ (A29 : Option Addr) (n30 : Nat) (c31 : Nat), w22.cell? ((⟨g21, 0, none⟩ : Addr).add 2) = some (.slice A29 n30 c31) ∧ ∃ (n32 : Int), w22.cell? ((⟨g21, 0, none⟩ : Addr).add 3) = some (.int .i64 n32) ∧ ∃ (n33 : Int), w22.cell? ((⟨g21, 0, none⟩ : Addr).add 4) = some (.int .i64 n33) ∧ Cll Try.prog 32 #[(.agg #[(.slice A23 n24 c25), (.slice A26 n27 c28), (.slice A29 n30 c31), (.int .i64 n32), (.int .i64 n33)])] w22 fun v34 w35 => (∃ (b36 : Bool), v34 = (.bool b36) ∧ bcase b36 (∃ (A37 : Option Addr) (n38 : Nat) (c39 : Nat), w35.cell? ((⟨g21, 0, none⟩ : Addr).add 0) = some (.slice A37 n38 c39) ∧ ∃ (A40 : Option Addr) (n41 : Nat) (c42 : Nat), w35.cell? ((⟨g21, 0, none⟩ : Addr).add 1) = some (.slice A40 n41 c42) ∧ ∃ (A43 : Option Addr) (n44 : Nat) (c45 : Nat), w35.cell? ((⟨g21, 0, none⟩ : Addr).add 2) = some (.slice A43 n44 c45) ∧ ∃ (n46 : Int), w35.cell? ((⟨g21, 0, none⟩ : Addr).add 3) = some (.int .i64 n46) ∧ ∃ (n47 : Int), w35.cell? ((⟨g21, 0, none⟩ : Addr).add 4) = some (.int .i64 n47) ∧ Cll Try.prog 107 #[(.agg #[(.slice A37 n38 c39), (.slice A40 n41 c42), (.slice A43 n44 c45), (.int .i64 n46), (.int .i64 n47)])] w35 fun v48 w49 => (∃ (b50 : Bool), v48 = (.bool b50) ∧ K (.bool b50) w49)) (K (.bool false) w35))

def impl_BlockEnded.ann : Ann := (.seq .l (.seq .l .l))

theorem impl_BlockEnded.vc_eq (A0_0 : Option Addr) (n0_0 : Nat) (c0_0 : Nat) (A0_1 : Option Addr) (n0_1 : Nat) (c0_1 : Nat) (A0_2 : Option Addr) (n0_2 : Nat) (c0_2 : Nat) (x0_3 : Int) (x0_4 : Int) (w : World) (K : Value → World → Prop) : vcF Try.prog Try.f49 impl_BlockEnded.ann [(.agg #[(.slice A0_0 n0_0 c0_0), (.slice A0_1 n0_1 c0_1), (.slice A0_2 n0_2 c0_2), (.int .i64 x0_3), (.int .i64 x0_4)])] K w = impl_BlockEnded.vc A0_0 n0_0 c0_0 A0_1 n0_1 c0_1 A0_2 n0_2 c0_2 x0_3 x0_4 w K := by kernel_rfl

theorem impl_BlockEnded.start {A0_0 : Option Addr} {n0_0 : Nat} {c0_0 : Nat} {A0_1 : Option Addr} {n0_1 : Nat} {c0_1 : Nat} {A0_2 : Option Addr} {n0_2 : Nat} {c0_2 : Nat} {x0_3 : Int} {x0_4 : Int} {w : World} {K : Value → World → Prop} (h : impl_BlockEnded.vc A0_0 n0_0 c0_0 A0_1 n0_1 c0_1 A0_2 n0_2 c0_2 x0_3 x0_4 w K) : Cll Try.prog 49 #[(.agg #[(.slice A0_0 n0_0 c0_0), (.slice A0_1 n0_1 c0_1), (.slice A0_2 n0_2 c0_2), (.int .i64 x0_3), (.int .i64 x0_4)])] w K :=
  vcF_sound mixed (fn := Try.f49) (by kernel_rfl) (by kernel_rfl) (an := impl_BlockEnded.ann) (args := [(.agg #[(.slice A0_0 n0_0 c0_0), (.slice A0_1 n0_1 c0_1), (.slice A0_2 n0_2 c0_2), (.int .i64 x0_3), (.int .i64 x0_4)])]) (by rw [impl_BlockEnded.vc_eq]; exact h)

theorem impl_BlockEnded.con {s0 : D.Block} {A0_0 : Option Addr} {c0_0 : Nat} {A0_1 : Option Addr} {c0_1 : Nat} {A0_2 : Option Addr} {c0_2 : Nat} {r : Bool} {w : World} (hp : M.impl_BlockEnded_pre s0) (hr : r = M.impl_BlockEnded s0) (R0_0 : Row el99 w A0_0 s0.Code) (hc0_0 : s0.Code.length ≤ c0_0) (R0_1 : RowW 96 el134 el3 w A0_1 s0.Warps) (hc0_1 : s0.Warps.length ≤ c0_1) (R0_2 : Row el3 w A0_2 s0.Memory) (hc0_2 : s0.Memory.length ≤ c0_2) :
    Cll Try.prog 49 #[(.agg #[(.slice A0_0 s0.Code.length c0_0), (.slice A0_1 s0.Warps.length c0_1), (.slice A0_2 s0.Memory.length c0_2), (.int .i64 s0.Waiting), (.int .i64 s0.Phase)])] w (fun v_ w_ => v_ = (.bool r) ∧ Ext w w_) := by
  have H := wp.impl_BlockEnded.math s0 hp
  have hB := Ext.refl w
  refine impl_BlockEnded.start ?_
  unfold impl_BlockEnded.vc
  unfold wp.impl_BlockEnded at H
  refine newBlk (fun g4_ w21 L4 P4 e22 => ?_)
  have O4 := P4
  have L4 := Nat.le_trans hB.size L4
  have hB := ethen hB e22
  refine ⟨_, _, _, (O4.at 0 rfl rfl), ?_⟩
  refine ⟨_, _, _, (O4.at 1 rfl rfl), ?_⟩
  refine ⟨_, _, _, (O4.at 2 rfl rfl), ?_⟩
  refine ⟨_, (O4.at 3 rfl rfl), ?_⟩
  refine ⟨_, (O4.at 4 rfl rfl), ?_⟩
  obtain ⟨hp25, H⟩ := H
  obtain ⟨r23, hr24⟩ : ∃ r_, r_ = M.impl_BlockOk s0 := ⟨_, rfl⟩
  have H := H r23 hr24
  refine (impl_BlockOk.con hp25 hr24 (R0_0.ext hB) hc0_0 (R0_1.ext hB) hc0_1 (R0_2.ext hB) hc0_2).mono ?_
  rintro _ w26 ⟨rfl, e27⟩
  have O4 := O4.ext e27
  have hB := ethen hB e27
  refine ⟨r23, rfl, ?_⟩
  refine bcase_mk (fun hc33 => ?_) (fun hc33 => ?_)
  · have H := (bcase_iff.1 H).1 hc33
    refine ⟨_, _, _, (O4.at 0 rfl rfl), ?_⟩
    refine ⟨_, _, _, (O4.at 1 rfl rfl), ?_⟩
    refine ⟨_, _, _, (O4.at 2 rfl rfl), ?_⟩
    refine ⟨_, (O4.at 3 rfl rfl), ?_⟩
    refine ⟨_, (O4.at 4 rfl rfl), ?_⟩
    obtain ⟨hp30, H⟩ := H
    obtain ⟨r28, hr29⟩ : ∃ r_, r_ = M.impl_Block_ended s0 := ⟨_, rfl⟩
    have H := H r28 hr29
    refine (impl_Block_ended.con hp30 hr29 (R0_0.ext hB) hc0_0 (R0_1.ext hB) hc0_1 (R0_2.ext hB) hc0_2).mono ?_
    rintro _ w31 ⟨rfl, e32⟩
    have O4 := O4.ext e32
    have hB := ethen hB e32
    refine ⟨r28, rfl, ?_⟩
    obtain rfl := hr.trans H.symm
    exact ⟨rfl, hB⟩
  · have H := (bcase_iff.1 H).2 hc33
    obtain rfl := hr.trans H.symm
    exact ⟨rfl, hB⟩

def laws_FnExactBlockEnded.vc (A0_0 : Option Addr) (n0_0 : Nat) (c0_0 : Nat) (A0_1 : Option Addr) (n0_1 : Nat) (c0_1 : Nat) (A0_2 : Option Addr) (n0_2 : Nat) (c0_2 : Nat) (x0_3 : Int) (x0_4 : Int) (w : World) (K : Value → World → Prop) : Prop :=
  newK w (.cells #[(.slice A0_0 n0_0 c0_0), (.slice A0_1 n0_1 c0_1), (.slice A0_2 n0_2 c0_2), (.int .i64 x0_3), (.int .i64 x0_4)] 57) fun g21 w22 => ∃ (A23 : Option Addr) (n24 : Nat) (c25 : Nat), w22.cell? ((⟨g21, 0, none⟩ : Addr).add 0) = some (.slice A23 n24 c25) ∧ ∃ (A26 : Option Addr) (n27 : Nat) (c28 : Nat), w22.cell? ((⟨g21, 0, none⟩ : Addr).add 1) = some (.slice A26 n27 c28) ∧ ∃ (A29 : Option Addr) (n30 : Nat) (c31 : Nat), w22.cell? ((⟨g21, 0, none⟩ : Addr).add 2) = some (.slice A29 n30 c31) ∧ ∃ (n32 : Int), w22.cell? ((⟨g21, 0, none⟩ : Addr).add 3) = some (.int .i64 n32) ∧ ∃ (n33 : Int), w22.cell? ((⟨g21, 0, none⟩ : Addr).add 4) = some (.int .i64 n33) ∧ Cll Try.prog 34 #[(.agg #[(.slice A23 n24 c25), (.slice A26 n27 c28), (.slice A29 n30 c31), (.int .i64 n32), (.int .i64 n33)]), (.int .i64 1048576)] w22 fun v34 w35 => (∃ (n36 : Int), v34 = (.int .i64 n36) ∧ bcase (decide (n36 < 0)) (K (.bool true) w35) (∃ (A37 : Option Addr) (n38 : Nat) (c39 : Nat), w35.cell? ((⟨g21, 0, none⟩ : Addr).add 0) = some (.slice A37 n38 c39) ∧ ∃ (A40 : Option Addr) (n41 : Nat) (c42 : Nat), w35.cell? ((⟨g21, 0, none⟩ : Addr).add 1) = some (.slice A40 n41 c42) ∧ ∃ (A43 : Option Addr) (n44 : Nat) (c45 : Nat), w35.cell? ((⟨g21, 0, none⟩ : Addr).add 2) = some (.slice A43 n44 c45) ∧ ∃ (n46 : Int), w35.cell? ((⟨g21, 0, none⟩ : Addr).add 3) = some (.int .i64 n46) ∧ ∃ (n47 : Int), w35.cell? ((⟨g21, 0, none⟩ : Addr).add 4) = some (.int .i64 n47) ∧ Cll Try.prog 36 #[(.agg #[(.slice A37 n38 c39), (.slice A40 n41 c42), (.slice A43 n44 c45), (.int .i64 n46), (.int .i64 n47)])] w35 fun v48 w49 => (∃ (A50 : Option Addr) (n51 : Nat) (c52 : Nat), True ∧ ∃ (A53 : Option Addr) (n54 : Nat) (c55 : Nat), True ∧ ∃ (A56 : Option Addr) (n57 : Nat) (c58 : Nat), True ∧ ∃ (n59 : Int), True ∧ ∃ (n60 : Int), True ∧ v48 = (.agg #[(.slice A50 n51 c52), (.slice A53 n54 c55), (.slice A56 n57 c58), (.int .i64 n59), (.int .i64 n60)]) ∧ Cll Try.prog 48 #[(.agg #[(.slice A50 n51 c52), (.slice A53 n54 c55), (.slice A56 n57 c58), (.int .i64 n59), (.int .i64 n60)])] w49 fun v61 w62 => (∃ (b63 : Bool), v61 = (.bool b63) ∧ ∃ (A64 : Option Addr) (n65 : Nat) (c66 : Nat), w62.cell? ((⟨g21, 0, none⟩ : Addr).add 0) = some (.slice A64 n65 c66) ∧ ∃ (A67 : Option Addr) (n68 : Nat) (c69 : Nat), w62.cell? ((⟨g21, 0, none⟩ : Addr).add 1) = some (.slice A67 n68 c69) ∧ ∃ (A70 : Option Addr) (n71 : Nat) (c72 : Nat), w62.cell? ((⟨g21, 0, none⟩ : Addr).add 2) = some (.slice A70 n71 c72) ∧ ∃ (n73 : Int), w62.cell? ((⟨g21, 0, none⟩ : Addr).add 3) = some (.int .i64 n73) ∧ ∃ (n74 : Int), w62.cell? ((⟨g21, 0, none⟩ : Addr).add 4) = some (.int .i64 n74) ∧ Cll Try.prog 36 #[(.agg #[(.slice A64 n65 c66), (.slice A67 n68 c69), (.slice A70 n71 c72), (.int .i64 n73), (.int .i64 n74)])] w62 fun v75 w76 => (∃ (A77 : Option Addr) (n78 : Nat) (c79 : Nat), True ∧ ∃ (A80 : Option Addr) (n81 : Nat) (c82 : Nat), True ∧ ∃ (A83 : Option Addr) (n84 : Nat) (c85 : Nat), True ∧ ∃ (n86 : Int), True ∧ ∃ (n87 : Int), True ∧ v75 = (.agg #[(.slice A77 n78 c79), (.slice A80 n81 c82), (.slice A83 n84 c85), (.int .i64 n86), (.int .i64 n87)]) ∧ newK w76 (.cells #[(.slice none 0 0), (.slice none 0 0), (.slice none 0 0), (.int .i64 0), (.int .i64 0)] 48) fun g88 w89 => stCells (⟨g88, 0, none⟩ : Addr) [(.slice A77 n78 c79), (.slice A80 n81 c82), (.slice A83 n84 c85), (.int .i64 n86), (.int .i64 n87)] 0 w89 fun w90 => ∃ (A91 : Option Addr) (n92 : Nat) (c93 : Nat), w90.cell? ((⟨g88, 0, none⟩ : Addr).add 0) = some (.slice A91 n92 c93) ∧ ∃ (A94 : Option Addr) (n95 : Nat) (c96 : Nat), w90.cell? ((⟨g88, 0, none⟩ : Addr).add 1) = some (.slice A94 n95 c96) ∧ ∃ (A97 : Option Addr) (n98 : Nat) (c99 : Nat), w90.cell? ((⟨g88, 0, none⟩ : Addr).add 2) = some (.slice A97 n98 c99) ∧ ∃ (n100 : Int), w90.cell? ((⟨g88, 0, none⟩ : Addr).add 3) = some (.int .i64 n100) ∧ ∃ (n101 : Int), w90.cell? ((⟨g88, 0, none⟩ : Addr).add 4) = some (.int .i64 n101) ∧ Cll Try.prog 49 #[(.agg #[(.slice A91 n92 c93), (.slice A94 n95 c96), (.slice A97 n98 c99), (.int .i64 n100), (.int .i64 n101)])] w90 fun v102 w103 => (∃ (b104 : Bool), v102 = (.bool b104) ∧ bcase (!(b104 == b63)) (K (.bool false) w103) ((∃ M105 : Nat → Prop, ∃ (A106 : Option Addr) (n107 : Nat) (c108 : Nat), (¬ M105 ((⟨g88, 0, none⟩ : Addr)).block ∧ w103.cell? ((⟨g88, 0, none⟩ : Addr).add 0) = some (.slice A106 n107 c108)) ∧ ∃ (A109 : Option Addr) (n110 : Nat) (c111 : Nat), (¬ M105 ((⟨g88, 0, none⟩ : Addr)).block ∧ w103.cell? ((⟨g88, 0, none⟩ : Addr).add 1) = some (.slice A109 n110 c111)) ∧ ∃ (A112 : Option Addr) (n113 : Nat) (c114 : Nat), (¬ M105 ((⟨g88, 0, none⟩ : Addr)).block ∧ w103.cell? ((⟨g88, 0, none⟩ : Addr).add 2) = some (.slice A112 n113 c114)) ∧ ∃ (n115 : Int), (¬ M105 ((⟨g88, 0, none⟩ : Addr)).block ∧ w103.cell? ((⟨g88, 0, none⟩ : Addr).add 3) = some (.int .i64 n115)) ∧ ∃ (n116 : Int), (¬ M105 ((⟨g88, 0, none⟩ : Addr)).block ∧ w103.cell? ((⟨g88, 0, none⟩ : Addr).add 4) = some (.int .i64 n116)) ∧ ∃ (A117 : Option Addr) (n118 : Nat) (c119 : Nat), (¬ M105 ((⟨g21, 0, none⟩ : Addr)).block ∧ w103.cell? ((⟨g21, 0, none⟩ : Addr).add 0) = some (.slice A117 n118 c119)) ∧ ∃ (A120 : Option Addr) (n121 : Nat) (c122 : Nat), (¬ M105 ((⟨g21, 0, none⟩ : Addr)).block ∧ w103.cell? ((⟨g21, 0, none⟩ : Addr).add 1) = some (.slice A120 n121 c122)) ∧ ∃ (A123 : Option Addr) (n124 : Nat) (c125 : Nat), (¬ M105 ((⟨g21, 0, none⟩ : Addr)).block ∧ w103.cell? ((⟨g21, 0, none⟩ : Addr).add 2) = some (.slice A123 n124 c125)) ∧ ∃ (n126 : Int), (¬ M105 ((⟨g21, 0, none⟩ : Addr)).block ∧ w103.cell? ((⟨g21, 0, none⟩ : Addr).add 3) = some (.int .i64 n126)) ∧ ∃ (n127 : Int), (¬ M105 ((⟨g21, 0, none⟩ : Addr)).block ∧ w103.cell? ((⟨g21, 0, none⟩ : Addr).add 4) = some (.int .i64 n127)) ∧ Cll Try.prog 36 #[(.agg #[(.slice A117 n118 c119), (.slice A120 n121 c122), (.slice A123 n124 c125), (.int .i64 n126), (.int .i64 n127)])] w103.drew fun v128 w129 => (∃ (A130 : Option Addr) (n131 : Nat) (c132 : Nat), True ∧ ∃ (A133 : Option Addr) (n134 : Nat) (c135 : Nat), True ∧ ∃ (A136 : Option Addr) (n137 : Nat) (c138 : Nat), True ∧ ∃ (n139 : Int), True ∧ ∃ (n140 : Int), True ∧ v128 = (.agg #[(.slice A130 n131 c132), (.slice A133 n134 c135), (.slice A136 n137 c138), (.int .i64 n139), (.int .i64 n140)]) ∧ SameBut M105 w103 w129 ∧ Cll Try.prog 37 #[(.agg #[(.slice A106 n107 c108), (.slice A109 n110 c111), (.slice A112 n113 c114), (.int .i64 n115), (.int .i64 n116)]), (.agg #[(.slice A130 n131 c132), (.slice A133 n134 c135), (.slice A136 n137 c138), (.int .i64 n139), (.int .i64 n140)])] w129 fun v141 w142 => (∃ (b143 : Bool), v141 = (.bool b143) ∧ SameBut M105 w103 w142 ∧ bcase (!b143) (K (.bool false) w142) (K (.bool true) w142)))))))))))

def laws_FnExactBlockEnded.ann : Ann := (.seq .l (.seq .l (.seq .l (.seq (.seq .l (.two (.seq .l .l) .l)) (.seq .l (.seq .l (.seq .l (.seq (.seq .l (.two (.seq .l .l) .l)) (.seq (.seq .l (.two (.seq .l .l) .l)) (.seq .l .l))))))))))

theorem laws_FnExactBlockEnded.vc_eq (A0_0 : Option Addr) (n0_0 : Nat) (c0_0 : Nat) (A0_1 : Option Addr) (n0_1 : Nat) (c0_1 : Nat) (A0_2 : Option Addr) (n0_2 : Nat) (c0_2 : Nat) (x0_3 : Int) (x0_4 : Int) (w : World) (K : Value → World → Prop) : vcF Try.prog Try.f11 laws_FnExactBlockEnded.ann [(.agg #[(.slice A0_0 n0_0 c0_0), (.slice A0_1 n0_1 c0_1), (.slice A0_2 n0_2 c0_2), (.int .i64 x0_3), (.int .i64 x0_4)])] K w = laws_FnExactBlockEnded.vc A0_0 n0_0 c0_0 A0_1 n0_1 c0_1 A0_2 n0_2 c0_2 x0_3 x0_4 w K := by kernel_rfl

theorem laws_FnExactBlockEnded.start {A0_0 : Option Addr} {n0_0 : Nat} {c0_0 : Nat} {A0_1 : Option Addr} {n0_1 : Nat} {c0_1 : Nat} {A0_2 : Option Addr} {n0_2 : Nat} {c0_2 : Nat} {x0_3 : Int} {x0_4 : Int} {w : World} {K : Value → World → Prop} (h : laws_FnExactBlockEnded.vc A0_0 n0_0 c0_0 A0_1 n0_1 c0_1 A0_2 n0_2 c0_2 x0_3 x0_4 w K) : Cll Try.prog 11 #[(.agg #[(.slice A0_0 n0_0 c0_0), (.slice A0_1 n0_1 c0_1), (.slice A0_2 n0_2 c0_2), (.int .i64 x0_3), (.int .i64 x0_4)])] w K :=
  vcF_sound mixed (fn := Try.f11) (by kernel_rfl) (by kernel_rfl) (an := laws_FnExactBlockEnded.ann) (args := [(.agg #[(.slice A0_0 n0_0 c0_0), (.slice A0_1 n0_1 c0_1), (.slice A0_2 n0_2 c0_2), (.int .i64 x0_3), (.int .i64 x0_4)])]) (by rw [laws_FnExactBlockEnded.vc_eq]; exact h)

theorem laws_FnExactBlockEnded.con {s0 : D.Block} {A0_0 : Option Addr} {c0_0 : Nat} {A0_1 : Option Addr} {c0_1 : Nat} {A0_2 : Option Addr} {c0_2 : Nat} {r : Bool} {w : World} (hp : M.laws_FnExactBlockEnded_pre s0) (hr : r = M.laws_FnExactBlockEnded s0) (R0_0 : Row el109 w A0_0 s0.Code) (hc0_0 : s0.Code.length ≤ c0_0) (R0_1 : RowW 138 el158 el3 w A0_1 s0.Warps) (hc0_1 : s0.Warps.length ≤ c0_1) (R0_2 : Row el3 w A0_2 s0.Memory) (hc0_2 : s0.Memory.length ≤ c0_2) :
    Cll Try.prog 11 #[(.agg #[(.slice A0_0 s0.Code.length c0_0), (.slice A0_1 s0.Warps.length c0_1), (.slice A0_2 s0.Memory.length c0_2), (.int .i64 s0.Waiting), (.int .i64 s0.Phase)])] w (fun v_ w_ => v_ = (.bool r) ∧ Ext w w_) := by
  have H := wp.laws_FnExactBlockEnded.math s0 hp
  have hB := Ext.refl w
  refine laws_FnExactBlockEnded.start ?_
  unfold laws_FnExactBlockEnded.vc
  unfold wp.laws_FnExactBlockEnded at H
  refine newBlk (fun g4_ w21 L4 P4 e22 => ?_)
  have O4 := P4
  have L4 := Nat.le_trans hB.size L4
  have hB := ethen hB e22
  refine ⟨_, _, _, (O4.at 0 rfl rfl), ?_⟩
  refine ⟨_, _, _, (O4.at 1 rfl rfl), ?_⟩
  refine ⟨_, _, _, (O4.at 2 rfl rfl), ?_⟩
  refine ⟨_, (O4.at 3 rfl rfl), ?_⟩
  refine ⟨_, (O4.at 4 rfl rfl), ?_⟩
  obtain ⟨hp25, H⟩ := H
  obtain ⟨r23, hr24⟩ : ∃ r_, r_ = M.laws_szBlock s0 1048576 := ⟨_, rfl⟩
  have H := H r23 hr24
  refine (laws_szBlock.con hp25 hr24 (R0_0.ext hB) hc0_0 (R0_1.ext hB) hc0_1 (R0_2.ext hB) hc0_2).mono ?_
  rintro _ w26 ⟨rfl, e27⟩
  have O4 := O4.ext e27
  have hB := ethen hB e27
  refine ⟨r23, rfl, ?_⟩
  refine bcase_mk (fun hc86 => ?_) (fun hc86 => ?_)
  · have H := (bcase_iff.1 H).1 hc86
    obtain rfl := hr.trans H.symm
    exact ⟨rfl, hB⟩
  · have H := (bcase_iff.1 H).2 hc86
    refine ⟨_, _, _, (O4.at 0 rfl rfl), ?_⟩
    refine ⟨_, _, _, (O4.at 1 rfl rfl), ?_⟩
    refine ⟨_, _, _, (O4.at 2 rfl rfl), ?_⟩
    refine ⟨_, (O4.at 3 rfl rfl), ?_⟩
    refine ⟨_, (O4.at 4 rfl rfl), ?_⟩
    obtain ⟨hp30, H⟩ := H
    obtain ⟨r28, hr29⟩ : ∃ r_, r_ = M.laws_toBlock s0 := ⟨_, rfl⟩
    have H := H r28 hr29
    refine (laws_toBlock.con hp30 hr29 (R0_0.ext hB) hc0_0 (R0_1.ext hB) hc0_1 (R0_2.ext hB) hc0_2).mono ?_
    rintro _ w31 ⟨A33, c34, A35, c36, F39, A37, c38, rfl, P5, P6, P7, N6_7, e32⟩
    have N5_4 := P5.apart_old O4.lt
    have N6_4 := P6.new_disbox O4 (Nat.le_refl _)
    have N7_4 := P7.apart_old O4.lt
    have O4 := O4.ext e32
    have O5 := P5.mono hB.size
    have O6 := P6.mono hB.size
    have O7 := P7.mono hB.size
    have hB := ethen hB e32
    refine ⟨A33, r28.Code.length, c34, trivial, ?_⟩
    refine ⟨A35, r28.Warps.length, c36, trivial, ?_⟩
    refine ⟨A37, r28.Memory.length, c38, trivial, ?_⟩
    refine ⟨r28.Waiting, trivial, ?_⟩
    refine ⟨r28.Phase, trivial, ?_⟩
    refine ⟨rfl, ?_⟩
    obtain ⟨hp42, H⟩ := H
    obtain ⟨r40, hr41⟩ : ∃ r_, r_ = M.spec_BlockEnded r28 := ⟨_, rfl⟩
    have H := H r40 hr41
    refine (spec_BlockEnded.con hp42 hr41 O5.row O5.le O6.row O6.le O7.row O7.le).mono ?_
    rintro _ w43 ⟨rfl, e44⟩
    have O4 := O4.ext e44
    have O5 := O5.ext e44
    have O6 := O6.ext e44
    have O7 := O7.ext e44
    have hB := ethen hB e44
    refine ⟨r40, rfl, ?_⟩
    refine ⟨_, _, _, (O4.at 0 rfl rfl), ?_⟩
    refine ⟨_, _, _, (O4.at 1 rfl rfl), ?_⟩
    refine ⟨_, _, _, (O4.at 2 rfl rfl), ?_⟩
    refine ⟨_, (O4.at 3 rfl rfl), ?_⟩
    refine ⟨_, (O4.at 4 rfl rfl), ?_⟩
    obtain ⟨hp47, H⟩ := H
    obtain ⟨r45, hr46⟩ : ∃ r_, r_ = M.laws_toBlock s0 := ⟨_, rfl⟩
    have H := H r45 hr46
    refine (laws_toBlock.con hp47 hr46 (R0_0.ext hB) hc0_0 (R0_1.ext hB) hc0_1 (R0_2.ext hB) hc0_2).mono ?_
    rintro _ w48 ⟨A50, c51, A52, c53, F56, A54, c55, rfl, P8, P9, P10, N9_10, e49⟩
    have N8_4 := P8.apart_old O4.lt
    have N5_8 := Own.apart2_new O5 P8 (Nat.le_refl _)
    have N6_8 := O6.dis_new P8 (Nat.le_refl _)
    have N7_8 := Own.apart2_new O7 P8 (Nat.le_refl _)
    have N9_4 := P9.new_disbox O4 (Nat.le_refl _)
    have N9_5 := P9.new_dis O5 (Nat.le_refl _)
    have N6_9 := O6.dis_neww P9 (Nat.le_refl _)
    have N9_7 := P9.new_dis O7 (Nat.le_refl _)
    have N10_4 := P10.apart_old O4.lt
    have N5_10 := Own.apart2_new O5 P10 (Nat.le_refl _)
    have N6_10 := O6.dis_new P10 (Nat.le_refl _)
    have N7_10 := Own.apart2_new O7 P10 (Nat.le_refl _)
    have O4 := O4.ext e49
    have O5 := O5.ext e49
    have O6 := O6.ext e49
    have O7 := O7.ext e49
    have O8 := P8.mono hB.size
    have O9 := P9.mono hB.size
    have O10 := P10.mono hB.size
    have hB := ethen hB e49
    refine ⟨A50, r45.Code.length, c51, trivial, ?_⟩
    refine ⟨A52, r45.Warps.length, c53, trivial, ?_⟩
    refine ⟨A54, r45.Memory.length, c55, trivial, ?_⟩
    refine ⟨r45.Waiting, trivial, ?_⟩
    refine ⟨r45.Phase, trivial, ?_⟩
    refine ⟨rfl, ?_⟩
    refine newBlk (fun g11_ w57 L11 P11 e58 => ?_)
    have N4_11 := O4.ne L11
    have N5_11 := O5.apart_new L11
    have N6_11 := O6.dis_newbox L11
    have N7_11 := O7.apart_new L11
    have N8_11 := O8.apart_new L11
    have N9_11 := O9.dis_newbox L11
    have N10_11 := O10.apart_new L11
    have O4 := O4.ext e58
    have O5 := O5.ext e58
    have O6 := O6.ext e58
    have O7 := O7.ext e58
    have O8 := O8.ext e58
    have O9 := O9.ext e58
    have O10 := O10.ext e58
    have O11 := P11
    have L11 := Nat.le_trans hB.size L11
    have hB := ethen hB e58
    refine stBlk O11 (o := 0) (cs' := #[(.slice A50 r45.Code.length c51), (.slice A52 r45.Warps.length c53), (.slice A54 r45.Memory.length c55), (.int .i64 r45.Waiting), (.int .i64 r45.Phase)]) rfl rfl (Nat.le_of_ble_eq_true rfl) rfl (fun w59 P11 e60 => ?_)
    have O4_ := O4.chg e60 N4_11
    have O5_ := O5.chg e60 N5_11
    have O6_ := O6.chg e60 N6_11
    have O7_ := O7.chg e60 N7_11
    have O8_ := O8.chg e60 N8_11
    have O9_ := O9.chg e60 N9_11
    have O10_ := O10.chg e60 N10_11
    have O4 := O4_
    have O5 := O5_
    have O6 := O6_
    have O7 := O7_
    have O8 := O8_
    have O9 := O9_
    have O10 := O10_
    have hB := echg hB e60 L11
    have O11 := P11
    refine ⟨_, _, _, (O11.at 0 rfl rfl), ?_⟩
    refine ⟨_, _, _, (O11.at 1 rfl rfl), ?_⟩
    refine ⟨_, _, _, (O11.at 2 rfl rfl), ?_⟩
    refine ⟨_, (O11.at 3 rfl rfl), ?_⟩
    refine ⟨_, (O11.at 4 rfl rfl), ?_⟩
    obtain ⟨hp63, H⟩ := H
    obtain ⟨r61, hr62⟩ : ∃ r_, r_ = M.impl_BlockEnded r45 := ⟨_, rfl⟩
    have H := H r61 hr62
    refine (impl_BlockEnded.con hp63 hr62 O8.row O8.le O9.row O9.le O10.row O10.le).mono ?_
    rintro _ w64 ⟨rfl, e65⟩
    have O4 := O4.ext e65
    have O5 := O5.ext e65
    have O6 := O6.ext e65
    have O7 := O7.ext e65
    have O8 := O8.ext e65
    have O9 := O9.ext e65
    have O10 := O10.ext e65
    have O11 := O11.ext e65
    have hB := ethen hB e65
    refine ⟨r61, rfl, ?_⟩
    refine bcase_mk (fun hc85 => ?_) (fun hc85 => ?_)
    · have H := (bcase_iff.1 H).1 hc85
      obtain rfl := hr.trans H.symm
      exact ⟨rfl, hB⟩
    · have H := (bcase_iff.1 H).2 hc85
      refine ⟨(fun _ => False), ?_⟩
      refine ⟨_, _, _, ⟨(fun h_ => h_), (O11.at 0 rfl rfl)⟩, ?_⟩
      refine ⟨_, _, _, ⟨(fun h_ => h_), (O11.at 1 rfl rfl)⟩, ?_⟩
      refine ⟨_, _, _, ⟨(fun h_ => h_), (O11.at 2 rfl rfl)⟩, ?_⟩
      refine ⟨_, ⟨(fun h_ => h_), (O11.at 3 rfl rfl)⟩, ?_⟩
      refine ⟨_, ⟨(fun h_ => h_), (O11.at 4 rfl rfl)⟩, ?_⟩
      refine ⟨_, _, _, ⟨(fun h_ => h_), (O4.at 0 rfl rfl)⟩, ?_⟩
      refine ⟨_, _, _, ⟨(fun h_ => h_), (O4.at 1 rfl rfl)⟩, ?_⟩
      refine ⟨_, _, _, ⟨(fun h_ => h_), (O4.at 2 rfl rfl)⟩, ?_⟩
      refine ⟨_, ⟨(fun h_ => h_), (O4.at 3 rfl rfl)⟩, ?_⟩
      refine ⟨_, ⟨(fun h_ => h_), (O4.at 4 rfl rfl)⟩, ?_⟩
      have hS66 := Chg.refl (fun _ => False) w64
      have O4 := O4.ext (Ext.drew _)
      have O5 := O5.ext (Ext.drew _)
      have O6 := O6.ext (Ext.drew _)
      have O7 := O7.ext (Ext.drew _)
      have O8 := O8.ext (Ext.drew _)
      have O9 := O9.ext (Ext.drew _)
      have O10 := O10.ext (Ext.drew _)
      have O11 := O11.ext (Ext.drew _)
      have hB := ethen hB (Ext.drew _)
      have hS66 := hS66.then (Ext.drew _)
      obtain ⟨hp69, H⟩ := H
      obtain ⟨r67, hr68⟩ : ∃ r_, r_ = M.laws_toBlock s0 := ⟨_, rfl⟩
      have H := H r67 hr68
      refine (laws_toBlock.con hp69 hr68 (R0_0.ext hB) hc0_0 (R0_1.ext hB) hc0_1 (R0_2.ext hB) hc0_2).mono ?_
      rintro _ w70 ⟨A72, c73, A74, c75, F78, A76, c77, rfl, P12, P13, P14, N13_14, e71⟩
      have N12_4 := P12.apart_old O4.lt
      have N5_12 := Own.apart2_new O5 P12 (Nat.le_refl _)
      have N6_12 := O6.dis_new P12 (Nat.le_refl _)
      have N7_12 := Own.apart2_new O7 P12 (Nat.le_refl _)
      have N8_12 := Own.apart2_new O8 P12 (Nat.le_refl _)
      have N9_12 := O9.dis_new P12 (Nat.le_refl _)
      have N10_12 := Own.apart2_new O10 P12 (Nat.le_refl _)
      have N12_11 := P12.apart_old O11.lt
      have N13_4 := P13.new_disbox O4 (Nat.le_refl _)
      have N13_5 := P13.new_dis O5 (Nat.le_refl _)
      have N6_13 := O6.dis_neww P13 (Nat.le_refl _)
      have N13_7 := P13.new_dis O7 (Nat.le_refl _)
      have N13_8 := P13.new_dis O8 (Nat.le_refl _)
      have N9_13 := O9.dis_neww P13 (Nat.le_refl _)
      have N13_10 := P13.new_dis O10 (Nat.le_refl _)
      have N13_11 := P13.new_disbox O11 (Nat.le_refl _)
      have N14_4 := P14.apart_old O4.lt
      have N5_14 := Own.apart2_new O5 P14 (Nat.le_refl _)
      have N6_14 := O6.dis_new P14 (Nat.le_refl _)
      have N7_14 := Own.apart2_new O7 P14 (Nat.le_refl _)
      have N8_14 := Own.apart2_new O8 P14 (Nat.le_refl _)
      have N9_14 := O9.dis_new P14 (Nat.le_refl _)
      have N10_14 := Own.apart2_new O10 P14 (Nat.le_refl _)
      have N14_11 := P14.apart_old O11.lt
      have O4 := O4.ext e71
      have O5 := O5.ext e71
      have O6 := O6.ext e71
      have O7 := O7.ext e71
      have O8 := O8.ext e71
      have O9 := O9.ext e71
      have O10 := O10.ext e71
      have O11 := O11.ext e71
      have LB12 := (P12.mono hS66.size).low
      have LB13 := (P13.mono hS66.size).lowW
      have LB14 := (P14.mono hS66.size).low
      have O12 := P12.mono hB.size
      have O13 := P13.mono hB.size
      have O14 := P14.mono hB.size
      have hB := ethen hB e71
      have hS66 := hS66.then e71
      refine ⟨A72, r67.Code.length, c73, trivial, ?_⟩
      refine ⟨A74, r67.Warps.length, c75, trivial, ?_⟩
      refine ⟨A76, r67.Memory.length, c77, trivial, ?_⟩
      refine ⟨r67.Waiting, trivial, ?_⟩
      refine ⟨r67.Phase, trivial, ?_⟩
      refine ⟨rfl, ?_⟩
      refine ⟨sameBut_chg hS66, ?_⟩
      obtain ⟨hp81, H⟩ := H
      obtain ⟨r79, hr80⟩ : ∃ r_, r_ = M.laws_eqBlock r45 r67 := ⟨_, rfl⟩
      have H := H r79 hr80
      refine (laws_eqBlock.con hp81 hr80 O8.row O8.le O9.row O9.le O10.row O10.le O12.row O12.le O13.row O13.le O14.row O14.le).mono ?_
      rintro _ w82 ⟨rfl, e83⟩
      have O4 := O4.ext e83
      have O5 := O5.ext e83
      have O6 := O6.ext e83
      have O7 := O7.ext e83
      have O8 := O8.ext e83
      have O9 := O9.ext e83
      have O10 := O10.ext e83
      have O11 := O11.ext e83
      have O12 := O12.ext e83
      have O13 := O13.ext e83
      have O14 := O14.ext e83
      have hB := ethen hB e83
      have hS66 := hS66.then e83
      refine ⟨r79, rfl, ?_⟩
      refine ⟨sameBut_chg hS66, ?_⟩
      refine bcase_mk (fun hc84 => ?_) (fun hc84 => ?_)
      · have H := (bcase_iff.1 H).1 hc84
        obtain rfl := hr.trans H.symm
        exact ⟨rfl, hB⟩
      · have H := (bcase_iff.1 H).2 hc84
        obtain rfl := hr.trans H.symm
        exact ⟨rfl, hB⟩

def spec_l30Next.vc (A0_0 : Option Addr) (n0_0 : Nat) (c0_0 : Nat) (A0_1 : Option Addr) (n0_1 : Nat) (c0_1 : Nat) (A0_2 : Option Addr) (n0_2 : Nat) (c0_2 : Nat) (x0_3 : Int) (x0_4 : Int) (x1 : Int) (w : World) (K : Value → World → Prop) : Prop :=
  newK w (.cells #[(.slice A0_0 n0_0 c0_0), (.slice A0_1 n0_1 c0_1), (.slice A0_2 n0_2 c0_2), (.int .i64 x0_3), (.int .i64 x0_4)] 48) fun g21 w22 => newK w22 (.cells #[(.int .i64 0), (.int .i64 0), (.int .i64 0), (.int .i64 0)] 99) fun g23 w24 => ∃ (A25 : Option Addr) (n26 : Nat) (c27 : Nat), w24.cell? (((⟨g21, 0, none⟩ : Addr).add 1).add 0) = some (.slice A25 n26 c27) ∧ ((0 : Int) ≤ x1 ∧ x1 < ((n26 : Nat) : Int) ∧ ∃ a28 : Addr, A25 = some a28 ∧ ∃ (A29 : Option Addr) (n30 : Nat) (c31 : Nat), w24.cell? (((a28.add ((x1.toNat) * 3)).add 1).add 0) = some (.slice A29 n30 c31) ∧ (∃ M32 : Nat → Prop, ∃ (A33 : Option Addr) (n34 : Nat) (c35 : Nat), (¬ M32 (((⟨g21, 0, none⟩ : Addr).add 0)).block ∧ w24.cell? (((⟨g21, 0, none⟩ : Addr).add 0).add 0) = some (.slice A33 n34 c35)) ∧ ((0 : Int) ≤ (IntKind.wrap .i64 (((n30 : Nat) : Int) - 1)) ∧ (IntKind.wrap .i64 (((n30 : Nat) : Int) - 1)) < ((n30 : Nat) : Int) ∧ ∃ a36 : Addr, A29 = some a36 ∧ ∃ (n37 : Int), (¬ M32 (((a36.add (((IntKind.wrap .i64 (((n30 : Nat) : Int) - 1)).toNat) * 3)).add 0)).block ∧ w24.cell? (((a36.add (((IntKind.wrap .i64 (((n30 : Nat) : Int) - 1)).toNat) * 3)).add 0).add 0) = some (.int .i64 n37)) ∧ ((0 : Int) ≤ n37 ∧ n37 < ((n34 : Nat) : Int) ∧ ∃ a38 : Addr, A33 = some a38 ∧ ∃ (n39 : Int), (¬ M32 ((a38.add ((n37.toNat) * 4))).block ∧ w24.cell? ((a38.add ((n37.toNat) * 4)).add 0) = some (.int .i64 n39)) ∧ ∃ (n40 : Int), (¬ M32 ((a38.add ((n37.toNat) * 4))).block ∧ w24.cell? ((a38.add ((n37.toNat) * 4)).add 1) = some (.int .i64 n40)) ∧ ∃ (n41 : Int), (¬ M32 ((a38.add ((n37.toNat) * 4))).block ∧ w24.cell? ((a38.add ((n37.toNat) * 4)).add 2) = some (.int .i64 n41)) ∧ ∃ (n42 : Int), (¬ M32 ((a38.add ((n37.toNat) * 4))).block ∧ w24.cell? ((a38.add ((n37.toNat) * 4)).add 3) = some (.int .i64 n42)) ∧ stCells (⟨g23, 0, none⟩ : Addr) [(.int .i64 n39), (.int .i64 n40), (.int .i64 n41), (.int .i64 n42)] 0 w24.drew fun w43 => ∃ (n44 : Int), w43.cell? ((⟨g23, 0, none⟩ : Addr).add 0) = some (.int .i64 n44) ∧ ∃ (n45 : Int), w43.cell? ((⟨g23, 0, none⟩ : Addr).add 1) = some (.int .i64 n45) ∧ ∃ (n46 : Int), w43.cell? ((⟨g23, 0, none⟩ : Addr).add 2) = some (.int .i64 n46) ∧ ∃ (n47 : Int), w43.cell? ((⟨g23, 0, none⟩ : Addr).add 3) = some (.int .i64 n47) ∧ K (.agg #[(.int .i64 n44), (.int .i64 n45), (.int .i64 n46), (.int .i64 n47)]) w43))))

def spec_l30Next.ann : Ann := (.seq .l (.seq .l (.seq .l .l)))

theorem spec_l30Next.vc_eq (A0_0 : Option Addr) (n0_0 : Nat) (c0_0 : Nat) (A0_1 : Option Addr) (n0_1 : Nat) (c0_1 : Nat) (A0_2 : Option Addr) (n0_2 : Nat) (c0_2 : Nat) (x0_3 : Int) (x0_4 : Int) (x1 : Int) (w : World) (K : Value → World → Prop) : vcF Try.prog Try.f108 spec_l30Next.ann [(.agg #[(.slice A0_0 n0_0 c0_0), (.slice A0_1 n0_1 c0_1), (.slice A0_2 n0_2 c0_2), (.int .i64 x0_3), (.int .i64 x0_4)]), (.int .i64 x1)] K w = spec_l30Next.vc A0_0 n0_0 c0_0 A0_1 n0_1 c0_1 A0_2 n0_2 c0_2 x0_3 x0_4 x1 w K := by kernel_rfl

theorem spec_l30Next.start {A0_0 : Option Addr} {n0_0 : Nat} {c0_0 : Nat} {A0_1 : Option Addr} {n0_1 : Nat} {c0_1 : Nat} {A0_2 : Option Addr} {n0_2 : Nat} {c0_2 : Nat} {x0_3 : Int} {x0_4 : Int} {x1 : Int} {w : World} {K : Value → World → Prop} (h : spec_l30Next.vc A0_0 n0_0 c0_0 A0_1 n0_1 c0_1 A0_2 n0_2 c0_2 x0_3 x0_4 x1 w K) : Cll Try.prog 108 #[(.agg #[(.slice A0_0 n0_0 c0_0), (.slice A0_1 n0_1 c0_1), (.slice A0_2 n0_2 c0_2), (.int .i64 x0_3), (.int .i64 x0_4)]), (.int .i64 x1)] w K :=
  vcF_sound mixed (fn := Try.f108) (by kernel_rfl) (by kernel_rfl) (an := spec_l30Next.ann) (args := [(.agg #[(.slice A0_0 n0_0 c0_0), (.slice A0_1 n0_1 c0_1), (.slice A0_2 n0_2 c0_2), (.int .i64 x0_3), (.int .i64 x0_4)]), (.int .i64 x1)]) (by rw [spec_l30Next.vc_eq]; exact h)

theorem spec_l30Next.con {s0 : D.Block} {A0_0 : Option Addr} {c0_0 : Nat} {A0_1 : Option Addr} {c0_1 : Nat} {A0_2 : Option Addr} {c0_2 : Nat} {x1 : Int} {r : D.Ins} {w : World} (hp : M.spec_l30Next_pre s0 x1) (hr : r = M.spec_l30Next s0 x1) (R0_0 : Row el99 w A0_0 s0.Code) (hc0_0 : s0.Code.length ≤ c0_0) (R0_1 : RowW 96 el134 el3 w A0_1 s0.Warps) (hc0_1 : s0.Warps.length ≤ c0_1) (R0_2 : Row el3 w A0_2 s0.Memory) (hc0_2 : s0.Memory.length ≤ c0_2) :
    Cll Try.prog 108 #[(.agg #[(.slice A0_0 s0.Code.length c0_0), (.slice A0_1 s0.Warps.length c0_1), (.slice A0_2 s0.Memory.length c0_2), (.int .i64 s0.Waiting), (.int .i64 s0.Phase)]), (.int .i64 x1)] w (fun v_ w_ => v_ = (.agg #[(.int .i64 r.Op), (.int .i64 r.A), (.int .i64 r.B), (.int .i64 r.C)]) ∧ Ext w w_) := by
  have H := wp.spec_l30Next.math s0 x1 hp
  have hB := Ext.refl w
  refine spec_l30Next.start ?_
  unfold spec_l30Next.vc
  unfold wp.spec_l30Next at H
  refine newBlk (fun g4_ w21 L4 P4 e22 => ?_)
  have O4 := P4
  have L4 := Nat.le_trans hB.size L4
  have hB := ethen hB e22
  refine newBlk (fun g5_ w23 L5 P5 e24 => ?_)
  have N4_5 := O4.ne L5
  have O4 := O4.ext e24
  have O5 := P5
  have L5 := Nat.le_trans hB.size L5
  have hB := ethen hB e24
  refine ⟨_, _, _, (O4.at 1 rfl rfl), ?_⟩
  obtain ⟨⟨h0_28, h1_29⟩, H⟩ := H
  obtain ⟨a26, ha27, A33, c34, A35, c36, f30, f31, f32, R37, hle39, R38, hle40⟩ := RowW.at R0_1 h0_28 h1_29
  refine ⟨h0_28, h1_29, a26, ha27, ?_⟩
  refine ⟨_, _, _, (Ext.cell hB f31), ?_⟩
  refine ⟨(fun _ => False), ?_⟩
  refine ⟨_, _, _, ⟨(fun h_ => h_), (O4.at 0 rfl rfl)⟩, ?_⟩
  obtain ⟨⟨h0_45, h1_46⟩, H⟩ := H
  obtain ⟨a43, ha44, hat42⟩ := Row.at (R37.ext hB) h0_45 h1_46
  refine ⟨h0_45, (by first | exact h1_46 | omega | (simp at h1_46 ⊢; omega)), a43, ha44, ?_⟩
  refine ⟨_, ⟨(fun h_ => h_), (hat42 0 _ rfl)⟩, ?_⟩
  obtain ⟨⟨h0_50, h1_51⟩, H⟩ := H
  obtain ⟨a48, ha49, hat47⟩ := Row.at (R0_0.ext hB) h0_50 h1_51
  refine ⟨h0_50, h1_51, a48, ha49, ?_⟩
  refine ⟨_, ⟨(fun h_ => h_), (hat47 0 _ rfl)⟩, ?_⟩
  refine ⟨_, ⟨(fun h_ => h_), (hat47 1 _ rfl)⟩, ?_⟩
  refine ⟨_, ⟨(fun h_ => h_), (hat47 2 _ rfl)⟩, ?_⟩
  refine ⟨_, ⟨(fun h_ => h_), (hat47 3 _ rfl)⟩, ?_⟩
  have hS41 := Chg.refl (fun _ => False) w23
  have O4 := O4.ext (Ext.drew _)
  have O5 := O5.ext (Ext.drew _)
  have hB := ethen hB (Ext.drew _)
  have hS41 := hS41.then (Ext.drew _)
  refine stBlk O5 (o := 0) (cs' := #[(.int .i64 ((rd s0.Code ((rd ((rd s0.Warps x1).Frames) (IntKind.wrap .i64 ((((rd s0.Warps x1).Frames.length : Nat) : Int) - 1))).Pc)).Op)), (.int .i64 ((rd s0.Code ((rd ((rd s0.Warps x1).Frames) (IntKind.wrap .i64 ((((rd s0.Warps x1).Frames.length : Nat) : Int) - 1))).Pc)).A)), (.int .i64 ((rd s0.Code ((rd ((rd s0.Warps x1).Frames) (IntKind.wrap .i64 ((((rd s0.Warps x1).Frames.length : Nat) : Int) - 1))).Pc)).B)), (.int .i64 ((rd s0.Code ((rd ((rd s0.Warps x1).Frames) (IntKind.wrap .i64 ((((rd s0.Warps x1).Frames.length : Nat) : Int) - 1))).Pc)).C))]) rfl rfl (Nat.le_of_ble_eq_true rfl) rfl (fun w52 P5 e53 => ?_)
  have O4_ := O4.chg e53 N4_5
  have O4 := O4_
  have hB := echg hB e53 L5
  have O5 := P5
  refine ⟨_, (O5.at 0 rfl rfl), ?_⟩
  refine ⟨_, (O5.at 1 rfl rfl), ?_⟩
  refine ⟨_, (O5.at 2 rfl rfl), ?_⟩
  refine ⟨_, (O5.at 3 rfl rfl), ?_⟩
  obtain rfl := hr.trans H.symm
  exact ⟨rfl, hB⟩

def spec_NextOp.vc (A0_0 : Option Addr) (n0_0 : Nat) (c0_0 : Nat) (A0_1 : Option Addr) (n0_1 : Nat) (c0_1 : Nat) (A0_2 : Option Addr) (n0_2 : Nat) (c0_2 : Nat) (x0_3 : Int) (x0_4 : Int) (x1 : Int) (w : World) (K : Value → World → Prop) : Prop :=
  newK w (.cells #[(.slice A0_0 n0_0 c0_0), (.slice A0_1 n0_1 c0_1), (.slice A0_2 n0_2 c0_2), (.int .i64 x0_3), (.int .i64 x0_4)] 48) fun g21 w22 => ∃ (A23 : Option Addr) (n24 : Nat) (c25 : Nat), w22.cell? ((⟨g21, 0, none⟩ : Addr).add 0) = some (.slice A23 n24 c25) ∧ ∃ (A26 : Option Addr) (n27 : Nat) (c28 : Nat), w22.cell? ((⟨g21, 0, none⟩ : Addr).add 1) = some (.slice A26 n27 c28) ∧ ∃ (A29 : Option Addr) (n30 : Nat) (c31 : Nat), w22.cell? ((⟨g21, 0, none⟩ : Addr).add 2) = some (.slice A29 n30 c31) ∧ ∃ (n32 : Int), w22.cell? ((⟨g21, 0, none⟩ : Addr).add 3) = some (.int .i64 n32) ∧ ∃ (n33 : Int), w22.cell? ((⟨g21, 0, none⟩ : Addr).add 4) = some (.int .i64 n33) ∧ Cll Try.prog 95 #[(.agg #[(.slice A23 n24 c25), (.slice A26 n27 c28), (.slice A29 n30 c31), (.int .i64 n32), (.int .i64 n33)]), (.int .i64 x1)] w22 fun v34 w35 => (∃ (b36 : Bool), v34 = (.bool b36) ∧ bcase (!b36) (K (.int .i64 (-1)) w35) (∃ (A37 : Option Addr) (n38 : Nat) (c39 : Nat), w35.cell? (((⟨g21, 0, none⟩ : Addr).add 1).add 0) = some (.slice A37 n38 c39) ∧ ((0 : Int) ≤ x1 ∧ x1 < ((n38 : Nat) : Int) ∧ ∃ a40 : Addr, A37 = some a40 ∧ ∃ (A41 : Option Addr) (n42 : Nat) (c43 : Nat), w35.cell? (((a40.add ((x1.toNat) * 3)).add 1).add 0) = some (.slice A41 n42 c43) ∧ bcase (((n42 : Nat) : Int) == 0) (K (.int .i64 (-1)) w35) (∃ (A44 : Option Addr) (n45 : Nat) (c46 : Nat), w35.cell? ((⟨g21, 0, none⟩ : Addr).add 0) = some (.slice A44 n45 c46) ∧ ∃ (A47 : Option Addr) (n48 : Nat) (c49 : Nat), w35.cell? ((⟨g21, 0, none⟩ : Addr).add 1) = some (.slice A47 n48 c49) ∧ ∃ (A50 : Option Addr) (n51 : Nat) (c52 : Nat), w35.cell? ((⟨g21, 0, none⟩ : Addr).add 2) = some (.slice A50 n51 c52) ∧ ∃ (n53 : Int), w35.cell? ((⟨g21, 0, none⟩ : Addr).add 3) = some (.int .i64 n53) ∧ ∃ (n54 : Int), w35.cell? ((⟨g21, 0, none⟩ : Addr).add 4) = some (.int .i64 n54) ∧ Cll Try.prog 108 #[(.agg #[(.slice A44 n45 c46), (.slice A47 n48 c49), (.slice A50 n51 c52), (.int .i64 n53), (.int .i64 n54)]), (.int .i64 x1)] w35 fun v55 w56 => (∃ (n57 : Int), True ∧ ∃ (n58 : Int), True ∧ ∃ (n59 : Int), True ∧ ∃ (n60 : Int), True ∧ v55 = (.agg #[(.int .i64 n57), (.int .i64 n58), (.int .i64 n59), (.int .i64 n60)]) ∧ K (.int .i64 n57) w56)))))

def spec_NextOp.ann : Ann := (.seq .l (.seq (.seq .l (.two (.seq .l .l) .l)) (.seq .l .l)))

theorem spec_NextOp.vc_eq (A0_0 : Option Addr) (n0_0 : Nat) (c0_0 : Nat) (A0_1 : Option Addr) (n0_1 : Nat) (c0_1 : Nat) (A0_2 : Option Addr) (n0_2 : Nat) (c0_2 : Nat) (x0_3 : Int) (x0_4 : Int) (x1 : Int) (w : World) (K : Value → World → Prop) : vcF Try.prog Try.f50 spec_NextOp.ann [(.agg #[(.slice A0_0 n0_0 c0_0), (.slice A0_1 n0_1 c0_1), (.slice A0_2 n0_2 c0_2), (.int .i64 x0_3), (.int .i64 x0_4)]), (.int .i64 x1)] K w = spec_NextOp.vc A0_0 n0_0 c0_0 A0_1 n0_1 c0_1 A0_2 n0_2 c0_2 x0_3 x0_4 x1 w K := by kernel_rfl

theorem spec_NextOp.start {A0_0 : Option Addr} {n0_0 : Nat} {c0_0 : Nat} {A0_1 : Option Addr} {n0_1 : Nat} {c0_1 : Nat} {A0_2 : Option Addr} {n0_2 : Nat} {c0_2 : Nat} {x0_3 : Int} {x0_4 : Int} {x1 : Int} {w : World} {K : Value → World → Prop} (h : spec_NextOp.vc A0_0 n0_0 c0_0 A0_1 n0_1 c0_1 A0_2 n0_2 c0_2 x0_3 x0_4 x1 w K) : Cll Try.prog 50 #[(.agg #[(.slice A0_0 n0_0 c0_0), (.slice A0_1 n0_1 c0_1), (.slice A0_2 n0_2 c0_2), (.int .i64 x0_3), (.int .i64 x0_4)]), (.int .i64 x1)] w K :=
  vcF_sound mixed (fn := Try.f50) (by kernel_rfl) (by kernel_rfl) (an := spec_NextOp.ann) (args := [(.agg #[(.slice A0_0 n0_0 c0_0), (.slice A0_1 n0_1 c0_1), (.slice A0_2 n0_2 c0_2), (.int .i64 x0_3), (.int .i64 x0_4)]), (.int .i64 x1)]) (by rw [spec_NextOp.vc_eq]; exact h)

theorem spec_NextOp.con {s0 : D.Block} {A0_0 : Option Addr} {c0_0 : Nat} {A0_1 : Option Addr} {c0_1 : Nat} {A0_2 : Option Addr} {c0_2 : Nat} {x1 : Int} {r : Int} {w : World} (hp : M.spec_NextOp_pre s0 x1) (hr : r = M.spec_NextOp s0 x1) (R0_0 : Row el99 w A0_0 s0.Code) (hc0_0 : s0.Code.length ≤ c0_0) (R0_1 : RowW 96 el134 el3 w A0_1 s0.Warps) (hc0_1 : s0.Warps.length ≤ c0_1) (R0_2 : Row el3 w A0_2 s0.Memory) (hc0_2 : s0.Memory.length ≤ c0_2) :
    Cll Try.prog 50 #[(.agg #[(.slice A0_0 s0.Code.length c0_0), (.slice A0_1 s0.Warps.length c0_1), (.slice A0_2 s0.Memory.length c0_2), (.int .i64 s0.Waiting), (.int .i64 s0.Phase)]), (.int .i64 x1)] w (fun v_ w_ => v_ = (.int .i64 r) ∧ Ext w w_) := by
  have H := wp.spec_NextOp.math s0 x1 hp
  have hB := Ext.refl w
  refine spec_NextOp.start ?_
  unfold spec_NextOp.vc
  unfold wp.spec_NextOp at H
  refine newBlk (fun g4_ w21 L4 P4 e22 => ?_)
  have O4 := P4
  have L4 := Nat.le_trans hB.size L4
  have hB := ethen hB e22
  refine ⟨_, _, _, (O4.at 0 rfl rfl), ?_⟩
  refine ⟨_, _, _, (O4.at 1 rfl rfl), ?_⟩
  refine ⟨_, _, _, (O4.at 2 rfl rfl), ?_⟩
  refine ⟨_, (O4.at 3 rfl rfl), ?_⟩
  refine ⟨_, (O4.at 4 rfl rfl), ?_⟩
  obtain ⟨hp25, H⟩ := H
  obtain ⟨r23, hr24⟩ : ∃ r_, r_ = M.spec_l30Ok s0 x1 := ⟨_, rfl⟩
  have H := H r23 hr24
  refine (spec_l30Ok.con hp25 hr24 (R0_0.ext hB) hc0_0 (R0_1.ext hB) hc0_1 (R0_2.ext hB) hc0_2).mono ?_
  rintro _ w26 ⟨rfl, e27⟩
  have O4 := O4.ext e27
  have hB := ethen hB e27
  refine ⟨r23, rfl, ?_⟩
  refine bcase_mk (fun hc50 => ?_) (fun hc50 => ?_)
  · have H := (bcase_iff.1 H).1 hc50
    obtain rfl := hr.trans H.symm
    exact ⟨rfl, hB⟩
  · have H := (bcase_iff.1 H).2 hc50
    refine ⟨_, _, _, (O4.at 1 rfl rfl), ?_⟩
    obtain ⟨⟨h0_31, h1_32⟩, H⟩ := H
    obtain ⟨a29, ha30, A36, c37, A38, c39, f33, f34, f35, R40, hle42, R41, hle43⟩ := RowW.at R0_1 h0_31 h1_32
    refine ⟨h0_31, h1_32, a29, ha30, ?_⟩
    refine ⟨_, _, _, (Ext.cell hB f34), ?_⟩
    refine bcase_mk (fun hc49 => ?_) (fun hc49 => ?_)
    · have H := (bcase_iff.1 H).1 hc49
      obtain rfl := hr.trans H.symm
      exact ⟨rfl, hB⟩
    · have H := (bcase_iff.1 H).2 hc49
      refine ⟨_, _, _, (O4.at 0 rfl rfl), ?_⟩
      refine ⟨_, _, _, (O4.at 1 rfl rfl), ?_⟩
      refine ⟨_, _, _, (O4.at 2 rfl rfl), ?_⟩
      refine ⟨_, (O4.at 3 rfl rfl), ?_⟩
      refine ⟨_, (O4.at 4 rfl rfl), ?_⟩
      obtain ⟨hp46, H⟩ := H
      obtain ⟨r44, hr45⟩ : ∃ r_, r_ = M.spec_l30Next s0 x1 := ⟨_, rfl⟩
      have H := H r44 hr45
      refine (spec_l30Next.con hp46 hr45 (R0_0.ext hB) hc0_0 (R0_1.ext hB) hc0_1 (R0_2.ext hB) hc0_2).mono ?_
      rintro _ w47 ⟨rfl, e48⟩
      have O4 := O4.ext e48
      have hB := ethen hB e48
      refine ⟨r44.Op, trivial, ?_⟩
      refine ⟨r44.A, trivial, ?_⟩
      refine ⟨r44.B, trivial, ?_⟩
      refine ⟨r44.C, trivial, ?_⟩
      refine ⟨rfl, ?_⟩
      obtain rfl := hr.trans H.symm
      exact ⟨rfl, hB⟩

def impl_Block_nextIns.vc (A0_0 : Option Addr) (n0_0 : Nat) (c0_0 : Nat) (A0_1 : Option Addr) (n0_1 : Nat) (c0_1 : Nat) (A0_2 : Option Addr) (n0_2 : Nat) (c0_2 : Nat) (x0_3 : Int) (x0_4 : Int) (x1 : Int) (w : World) (K : Value → World → Prop) : Prop :=
  newK w (.cells #[(.slice A0_0 n0_0 c0_0), (.slice A0_1 n0_1 c0_1), (.slice A0_2 n0_2 c0_2), (.int .i64 x0_3), (.int .i64 x0_4)] 48) fun g21 w22 => newK w22 (.cells #[(.int .i64 0), (.int .i64 0), (.int .i64 0), (.int .i64 0)] 99) fun g23 w24 => ∃ (A25 : Option Addr) (n26 : Nat) (c27 : Nat), w24.cell? (((⟨g21, 0, none⟩ : Addr).add 1).add 0) = some (.slice A25 n26 c27) ∧ ((0 : Int) ≤ x1 ∧ x1 < ((n26 : Nat) : Int) ∧ ∃ a28 : Addr, A25 = some a28 ∧ ∃ (A29 : Option Addr) (n30 : Nat) (c31 : Nat), w24.cell? (((a28.add ((x1.toNat) * 3)).add 1).add 0) = some (.slice A29 n30 c31) ∧ bcase (((n30 : Nat) : Int) == 0) (stCells (⟨g23, 0, none⟩ : Addr) [(.int .i64 0), (.int .i64 0), (.int .i64 0), (.int .i64 0)] 0 w24 fun w32 => ∃ (n33 : Int), w32.cell? ((⟨g23, 0, none⟩ : Addr).add 0) = some (.int .i64 n33) ∧ ∃ (n34 : Int), w32.cell? ((⟨g23, 0, none⟩ : Addr).add 1) = some (.int .i64 n34) ∧ ∃ (n35 : Int), w32.cell? ((⟨g23, 0, none⟩ : Addr).add 2) = some (.int .i64 n35) ∧ ∃ (n36 : Int), w32.cell? ((⟨g23, 0, none⟩ : Addr).add 3) = some (.int .i64 n36) ∧ K (.tuple #[(.agg #[(.int .i64 n33), (.int .i64 n34), (.int .i64 n35), (.int .i64 n36)]), (.bool false)]) w32) ((∃ M37 : Nat → Prop, ∃ (A38 : Option Addr) (n39 : Nat) (c40 : Nat), (¬ M37 (((⟨g21, 0, none⟩ : Addr).add 0)).block ∧ w24.cell? (((⟨g21, 0, none⟩ : Addr).add 0).add 0) = some (.slice A38 n39 c40)) ∧ ((0 : Int) ≤ (IntKind.wrap .i64 (((n30 : Nat) : Int) - 1)) ∧ (IntKind.wrap .i64 (((n30 : Nat) : Int) - 1)) < ((n30 : Nat) : Int) ∧ ∃ a41 : Addr, A29 = some a41 ∧ ∃ (n42 : Int), (¬ M37 (((a41.add (((IntKind.wrap .i64 (((n30 : Nat) : Int) - 1)).toNat) * 3)).add 0)).block ∧ w24.cell? (((a41.add (((IntKind.wrap .i64 (((n30 : Nat) : Int) - 1)).toNat) * 3)).add 0).add 0) = some (.int .i64 n42)) ∧ ((0 : Int) ≤ n42 ∧ n42 < ((n39 : Nat) : Int) ∧ ∃ a43 : Addr, A38 = some a43 ∧ ∃ (n44 : Int), (¬ M37 ((a43.add ((n42.toNat) * 4))).block ∧ w24.cell? ((a43.add ((n42.toNat) * 4)).add 0) = some (.int .i64 n44)) ∧ ∃ (n45 : Int), (¬ M37 ((a43.add ((n42.toNat) * 4))).block ∧ w24.cell? ((a43.add ((n42.toNat) * 4)).add 1) = some (.int .i64 n45)) ∧ ∃ (n46 : Int), (¬ M37 ((a43.add ((n42.toNat) * 4))).block ∧ w24.cell? ((a43.add ((n42.toNat) * 4)).add 2) = some (.int .i64 n46)) ∧ ∃ (n47 : Int), (¬ M37 ((a43.add ((n42.toNat) * 4))).block ∧ w24.cell? ((a43.add ((n42.toNat) * 4)).add 3) = some (.int .i64 n47)) ∧ stCells (⟨g23, 0, none⟩ : Addr) [(.int .i64 n44), (.int .i64 n45), (.int .i64 n46), (.int .i64 n47)] 0 w24.drew fun w48 => SameBut M37 w24 w48 ∧ ∃ (n49 : Int), w48.cell? ((⟨g23, 0, none⟩ : Addr).add 0) = some (.int .i64 n49) ∧ ∃ (n50 : Int), w48.cell? ((⟨g23, 0, none⟩ : Addr).add 1) = some (.int .i64 n50) ∧ ∃ (n51 : Int), w48.cell? ((⟨g23, 0, none⟩ : Addr).add 2) = some (.int .i64 n51) ∧ ∃ (n52 : Int), w48.cell? ((⟨g23, 0, none⟩ : Addr).add 3) = some (.int .i64 n52) ∧ K (.tuple #[(.agg #[(.int .i64 n49), (.int .i64 n50), (.int .i64 n51), (.int .i64 n52)]), (.bool true)]) w48)))))

def impl_Block_nextIns.ann : Ann := (.seq .l (.seq .l (.seq (.seq .l (.two (.seq .l .l) .l)) (.seq .l .l))))

theorem impl_Block_nextIns.vc_eq (A0_0 : Option Addr) (n0_0 : Nat) (c0_0 : Nat) (A0_1 : Option Addr) (n0_1 : Nat) (c0_1 : Nat) (A0_2 : Option Addr) (n0_2 : Nat) (c0_2 : Nat) (x0_3 : Int) (x0_4 : Int) (x1 : Int) (w : World) (K : Value → World → Prop) : vcF Try.prog Try.f109 impl_Block_nextIns.ann [(.agg #[(.slice A0_0 n0_0 c0_0), (.slice A0_1 n0_1 c0_1), (.slice A0_2 n0_2 c0_2), (.int .i64 x0_3), (.int .i64 x0_4)]), (.int .i64 x1)] K w = impl_Block_nextIns.vc A0_0 n0_0 c0_0 A0_1 n0_1 c0_1 A0_2 n0_2 c0_2 x0_3 x0_4 x1 w K := by kernel_rfl

theorem impl_Block_nextIns.start {A0_0 : Option Addr} {n0_0 : Nat} {c0_0 : Nat} {A0_1 : Option Addr} {n0_1 : Nat} {c0_1 : Nat} {A0_2 : Option Addr} {n0_2 : Nat} {c0_2 : Nat} {x0_3 : Int} {x0_4 : Int} {x1 : Int} {w : World} {K : Value → World → Prop} (h : impl_Block_nextIns.vc A0_0 n0_0 c0_0 A0_1 n0_1 c0_1 A0_2 n0_2 c0_2 x0_3 x0_4 x1 w K) : Cll Try.prog 109 #[(.agg #[(.slice A0_0 n0_0 c0_0), (.slice A0_1 n0_1 c0_1), (.slice A0_2 n0_2 c0_2), (.int .i64 x0_3), (.int .i64 x0_4)]), (.int .i64 x1)] w K :=
  vcF_sound mixed (fn := Try.f109) (by kernel_rfl) (by kernel_rfl) (an := impl_Block_nextIns.ann) (args := [(.agg #[(.slice A0_0 n0_0 c0_0), (.slice A0_1 n0_1 c0_1), (.slice A0_2 n0_2 c0_2), (.int .i64 x0_3), (.int .i64 x0_4)]), (.int .i64 x1)]) (by rw [impl_Block_nextIns.vc_eq]; exact h)

theorem impl_Block_nextIns.con {s0 : D.Block} {A0_0 : Option Addr} {c0_0 : Nat} {A0_1 : Option Addr} {c0_1 : Nat} {A0_2 : Option Addr} {c0_2 : Nat} {x1 : Int} {r : D.Ins × Bool} {w : World} (hp : M.impl_Block_nextIns_pre s0 x1) (hr : r = M.impl_Block_nextIns s0 x1) (R0_0 : Row el99 w A0_0 s0.Code) (hc0_0 : s0.Code.length ≤ c0_0) (R0_1 : RowW 96 el134 el3 w A0_1 s0.Warps) (hc0_1 : s0.Warps.length ≤ c0_1) (R0_2 : Row el3 w A0_2 s0.Memory) (hc0_2 : s0.Memory.length ≤ c0_2) :
    Cll Try.prog 109 #[(.agg #[(.slice A0_0 s0.Code.length c0_0), (.slice A0_1 s0.Warps.length c0_1), (.slice A0_2 s0.Memory.length c0_2), (.int .i64 s0.Waiting), (.int .i64 s0.Phase)]), (.int .i64 x1)] w (fun v_ w_ => v_ = (.tuple #[(.agg #[(.int .i64 r.1.Op), (.int .i64 r.1.A), (.int .i64 r.1.B), (.int .i64 r.1.C)]), (.bool r.2)]) ∧ Ext w w_) := by
  have H := wp.impl_Block_nextIns.math s0 x1 hp
  have hB := Ext.refl w
  refine impl_Block_nextIns.start ?_
  unfold impl_Block_nextIns.vc
  unfold wp.impl_Block_nextIns at H
  refine newBlk (fun g4_ w21 L4 P4 e22 => ?_)
  have O4 := P4
  have L4 := Nat.le_trans hB.size L4
  have hB := ethen hB e22
  refine newBlk (fun g5_ w23 L5 P5 e24 => ?_)
  have N4_5 := O4.ne L5
  have O4 := O4.ext e24
  have O5 := P5
  have L5 := Nat.le_trans hB.size L5
  have hB := ethen hB e24
  refine ⟨_, _, _, (O4.at 1 rfl rfl), ?_⟩
  obtain ⟨⟨h0_28, h1_29⟩, H⟩ := H
  obtain ⟨a26, ha27, A33, c34, A35, c36, f30, f31, f32, R37, hle39, R38, hle40⟩ := RowW.at R0_1 h0_28 h1_29
  refine ⟨h0_28, h1_29, a26, ha27, ?_⟩
  refine ⟨_, _, _, (Ext.cell hB f31), ?_⟩
  refine bcase_mk (fun hc68 => ?_) (fun hc68 => ?_)
  · have H := (bcase_iff.1 H).1 hc68
    refine stBlk O5 (o := 0) (cs' := #[(.int .i64 0), (.int .i64 0), (.int .i64 0), (.int .i64 0)]) rfl rfl (Nat.le_of_ble_eq_true rfl) rfl (fun w41 P5 e42 => ?_)
    have O4_ := O4.chg e42 N4_5
    have O4 := O4_
    have hB := echg hB e42 L5
    have O5 := P5
    refine ⟨_, (O5.at 0 rfl rfl), ?_⟩
    refine ⟨_, (O5.at 1 rfl rfl), ?_⟩
    refine ⟨_, (O5.at 2 rfl rfl), ?_⟩
    refine ⟨_, (O5.at 3 rfl rfl), ?_⟩
    obtain rfl := hr.trans H.symm
    exact ⟨rfl, hB⟩
  · have H := (bcase_iff.1 H).2 hc68
    refine ⟨((fun k_ => k_ = g5_)), ?_⟩
    refine ⟨_, _, _, ⟨(notM1 (N4_5) (by first | rfl | (simp only [blk_add]))), (O4.at 0 rfl rfl)⟩, ?_⟩
    obtain ⟨⟨h0_59, h1_60⟩, H⟩ := H
    obtain ⟨a57, ha58, hat56⟩ := Row.at (R37.ext hB) h0_59 h1_60
    refine ⟨h0_59, (by first | exact h1_60 | omega | (simp at h1_60 ⊢; omega)), a57, ha58, ?_⟩
    refine ⟨_, ⟨(notM1 (M := ((fun k_ => k_ = g5_))) (g := Addr.block a57) (fun h_ => absurd (R37.old (ne_ix h0_59 h1_60) _ ⟨_, ha58, rfl⟩) (Nat.not_lt.2 (box_low L5 _ h_))) (by first | rfl | (simp only [blk_add]))), (hat56 0 _ rfl)⟩, ?_⟩
    obtain ⟨⟨h0_64, h1_65⟩, H⟩ := H
    obtain ⟨a62, ha63, hat61⟩ := Row.at (R0_0.ext hB) h0_64 h1_65
    refine ⟨h0_64, h1_65, a62, ha63, ?_⟩
    refine ⟨_, ⟨(notM1 (M := ((fun k_ => k_ = g5_))) (g := Addr.block a62) (fun h_ => absurd (R0_0.old (ne_ix h0_64 h1_65) _ ⟨_, ha63, rfl⟩) (Nat.not_lt.2 (box_low L5 _ h_))) (by first | rfl | (simp only [blk_add]))), (hat61 0 _ rfl)⟩, ?_⟩
    refine ⟨_, ⟨(notM1 (M := ((fun k_ => k_ = g5_))) (g := Addr.block a62) (fun h_ => absurd (R0_0.old (ne_ix h0_64 h1_65) _ ⟨_, ha63, rfl⟩) (Nat.not_lt.2 (box_low L5 _ h_))) (by first | rfl | (simp only [blk_add]))), (hat61 1 _ rfl)⟩, ?_⟩
    refine ⟨_, ⟨(notM1 (M := ((fun k_ => k_ = g5_))) (g := Addr.block a62) (fun h_ => absurd (R0_0.old (ne_ix h0_64 h1_65) _ ⟨_, ha63, rfl⟩) (Nat.not_lt.2 (box_low L5 _ h_))) (by first | rfl | (simp only [blk_add]))), (hat61 2 _ rfl)⟩, ?_⟩
    refine ⟨_, ⟨(notM1 (M := ((fun k_ => k_ = g5_))) (g := Addr.block a62) (fun h_ => absurd (R0_0.old (ne_ix h0_64 h1_65) _ ⟨_, ha63, rfl⟩) (Nat.not_lt.2 (box_low L5 _ h_))) (by first | rfl | (simp only [blk_add]))), (hat61 3 _ rfl)⟩, ?_⟩
    have hS43 := Chg.refl ((fun k_ => k_ = g5_)) w23
    have O4 := O4.ext (Ext.drew _)
    have O5 := O5.ext (Ext.drew _)
    have hB := ethen hB (Ext.drew _)
    have hS43 := hS43.then (Ext.drew _)
    refine stBlk O5 (o := 0) (cs' := #[(.int .i64 ((rd s0.Code ((rd ((rd s0.Warps x1).Frames) (IntKind.wrap .i64 ((((rd s0.Warps x1).Frames.length : Nat) : Int) - 1))).Pc)).Op)), (.int .i64 ((rd s0.Code ((rd ((rd s0.Warps x1).Frames) (IntKind.wrap .i64 ((((rd s0.Warps x1).Frames.length : Nat) : Int) - 1))).Pc)).A)), (.int .i64 ((rd s0.Code ((rd ((rd s0.Warps x1).Frames) (IntKind.wrap .i64 ((((rd s0.Warps x1).Frames.length : Nat) : Int) - 1))).Pc)).B)), (.int .i64 ((rd s0.Code ((rd ((rd s0.Warps x1).Frames) (IntKind.wrap .i64 ((((rd s0.Warps x1).Frames.length : Nat) : Int) - 1))).Pc)).C))]) rfl rfl (Nat.le_of_ble_eq_true rfl) rfl (fun w66 P5 e67 => ?_)
    have O4_ := O4.chg e67 N4_5
    have O4 := O4_
    have hB := echg hB e67 L5
    have hS43 := hS43.chgb e67 (Or.inr rfl)
    have O5 := P5
    refine ⟨sameBut_chg hS43, ?_⟩
    refine ⟨_, (O5.at 0 rfl rfl), ?_⟩
    refine ⟨_, (O5.at 1 rfl rfl), ?_⟩
    refine ⟨_, (O5.at 2 rfl rfl), ?_⟩
    refine ⟨_, (O5.at 3 rfl rfl), ?_⟩
    obtain rfl := hr.trans H.symm
    exact ⟨rfl, hB⟩

def impl_NextOp.vc (A0_0 : Option Addr) (n0_0 : Nat) (c0_0 : Nat) (A0_1 : Option Addr) (n0_1 : Nat) (c0_1 : Nat) (A0_2 : Option Addr) (n0_2 : Nat) (c0_2 : Nat) (x0_3 : Int) (x0_4 : Int) (x1 : Int) (w : World) (K : Value → World → Prop) : Prop :=
  newK w (.cells #[(.slice A0_0 n0_0 c0_0), (.slice A0_1 n0_1 c0_1), (.slice A0_2 n0_2 c0_2), (.int .i64 x0_3), (.int .i64 x0_4)] 48) fun g21 w22 => ∃ (A23 : Option Addr) (n24 : Nat) (c25 : Nat), w22.cell? ((⟨g21, 0, none⟩ : Addr).add 0) = some (.slice A23 n24 c25) ∧ ∃ (A26 : Option Addr) (n27 : Nat) (c28 : Nat), w22.cell? ((⟨g21, 0, none⟩ : Addr).add 1) = some (.slice A26 n27 c28) ∧ ∃ (A29 : Option Addr) (n30 : Nat) (c31 : Nat), w22.cell? ((⟨g21, 0, none⟩ : Addr).add 2) = some (.slice A29 n30 c31) ∧ ∃ (n32 : Int), w22.cell? ((⟨g21, 0, none⟩ : Addr).add 3) = some (.int .i64 n32) ∧ ∃ (n33 : Int), w22.cell? ((⟨g21, 0, none⟩ : Addr).add 4) = some (.int .i64 n33) ∧ Cll Try.prog 96 #[(.agg #[(.slice A23 n24 c25), (.slice A26 n27 c28), (.slice A29 n30 c31), (.int .i64 n32), (.int .i64 n33)]), (.int .i64 x1)] w22 fun v34 w35 => (∃ (b36 : Bool), v34 = (.bool b36) ∧ bcase (!b36) (K (.int .i64 (-1)) w35) (∃ (A37 : Option Addr) (n38 : Nat) (c39 : Nat), w35.cell? ((⟨g21, 0, none⟩ : Addr).add 0) = some (.slice A37 n38 c39) ∧ ∃ (A40 : Option Addr) (n41 : Nat) (c42 : Nat), w35.cell? ((⟨g21, 0, none⟩ : Addr).add 1) = some (.slice A40 n41 c42) ∧ ∃ (A43 : Option Addr) (n44 : Nat) (c45 : Nat), w35.cell? ((⟨g21, 0, none⟩ : Addr).add 2) = some (.slice A43 n44 c45) ∧ ∃ (n46 : Int), w35.cell? ((⟨g21, 0, none⟩ : Addr).add 3) = some (.int .i64 n46) ∧ ∃ (n47 : Int), w35.cell? ((⟨g21, 0, none⟩ : Addr).add 4) = some (.int .i64 n47) ∧ Cll Try.prog 109 #[(.agg #[(.slice A37 n38 c39), (.slice A40 n41 c42), (.slice A43 n44 c45), (.int .i64 n46), (.int .i64 n47)]), (.int .i64 x1)] w35 fun v48 w49 => (∃ u50 : Value, (∃ (n51 : Int), True ∧ ∃ (n52 : Int), True ∧ ∃ (n53 : Int), True ∧ ∃ (n54 : Int), True ∧ u50 = (.agg #[(.int .i64 n51), (.int .i64 n52), (.int .i64 n53), (.int .i64 n54)]) ∧ ∃ u55 : Value, (∃ (b56 : Bool), u55 = (.bool b56) ∧ v48 = (.tuple #[(.agg #[(.int .i64 n51), (.int .i64 n52), (.int .i64 n53), (.int .i64 n54)]), (.bool b56)]) ∧ newK w49 (.cells #[(.int .i64 0), (.int .i64 0), (.int .i64 0), (.int .i64 0)] 99) fun g57 w58 => stCells (⟨g57, 0, none⟩ : Addr) [(.int .i64 n51), (.int .i64 n52), (.int .i64 n53), (.int .i64 n54)] 0 w58 fun w59 => bcase (!b56) (K (.int .i64 (-1)) w59) (∃ (n60 : Int), w59.cell? (((⟨g57, 0, none⟩ : Addr).add 0).add 0) = some (.int .i64 n60) ∧ K (.int .i64 n60) w59))))))

def impl_NextOp.ann : Ann := (.seq .l (.seq (.seq .l (.two (.seq .l .l) .l)) (.seq .l (.seq (.seq .l (.two (.seq .l .l) .l)) (.seq .l .l)))))

theorem impl_NextOp.vc_eq (A0_0 : Option Addr) (n0_0 : Nat) (c0_0 : Nat) (A0_1 : Option Addr) (n0_1 : Nat) (c0_1 : Nat) (A0_2 : Option Addr) (n0_2 : Nat) (c0_2 : Nat) (x0_3 : Int) (x0_4 : Int) (x1 : Int) (w : World) (K : Value → World → Prop) : vcF Try.prog Try.f51 impl_NextOp.ann [(.agg #[(.slice A0_0 n0_0 c0_0), (.slice A0_1 n0_1 c0_1), (.slice A0_2 n0_2 c0_2), (.int .i64 x0_3), (.int .i64 x0_4)]), (.int .i64 x1)] K w = impl_NextOp.vc A0_0 n0_0 c0_0 A0_1 n0_1 c0_1 A0_2 n0_2 c0_2 x0_3 x0_4 x1 w K := by kernel_rfl

theorem impl_NextOp.start {A0_0 : Option Addr} {n0_0 : Nat} {c0_0 : Nat} {A0_1 : Option Addr} {n0_1 : Nat} {c0_1 : Nat} {A0_2 : Option Addr} {n0_2 : Nat} {c0_2 : Nat} {x0_3 : Int} {x0_4 : Int} {x1 : Int} {w : World} {K : Value → World → Prop} (h : impl_NextOp.vc A0_0 n0_0 c0_0 A0_1 n0_1 c0_1 A0_2 n0_2 c0_2 x0_3 x0_4 x1 w K) : Cll Try.prog 51 #[(.agg #[(.slice A0_0 n0_0 c0_0), (.slice A0_1 n0_1 c0_1), (.slice A0_2 n0_2 c0_2), (.int .i64 x0_3), (.int .i64 x0_4)]), (.int .i64 x1)] w K :=
  vcF_sound mixed (fn := Try.f51) (by kernel_rfl) (by kernel_rfl) (an := impl_NextOp.ann) (args := [(.agg #[(.slice A0_0 n0_0 c0_0), (.slice A0_1 n0_1 c0_1), (.slice A0_2 n0_2 c0_2), (.int .i64 x0_3), (.int .i64 x0_4)]), (.int .i64 x1)]) (by rw [impl_NextOp.vc_eq]; exact h)

theorem impl_NextOp.con {s0 : D.Block} {A0_0 : Option Addr} {c0_0 : Nat} {A0_1 : Option Addr} {c0_1 : Nat} {A0_2 : Option Addr} {c0_2 : Nat} {x1 : Int} {r : Int} {w : World} (hp : M.impl_NextOp_pre s0 x1) (hr : r = M.impl_NextOp s0 x1) (R0_0 : Row el99 w A0_0 s0.Code) (hc0_0 : s0.Code.length ≤ c0_0) (R0_1 : RowW 96 el134 el3 w A0_1 s0.Warps) (hc0_1 : s0.Warps.length ≤ c0_1) (R0_2 : Row el3 w A0_2 s0.Memory) (hc0_2 : s0.Memory.length ≤ c0_2) :
    Cll Try.prog 51 #[(.agg #[(.slice A0_0 s0.Code.length c0_0), (.slice A0_1 s0.Warps.length c0_1), (.slice A0_2 s0.Memory.length c0_2), (.int .i64 s0.Waiting), (.int .i64 s0.Phase)]), (.int .i64 x1)] w (fun v_ w_ => v_ = (.int .i64 r) ∧ Ext w w_) := by
  have H := wp.impl_NextOp.math s0 x1 hp
  have hB := Ext.refl w
  refine impl_NextOp.start ?_
  unfold impl_NextOp.vc
  unfold wp.impl_NextOp at H
  refine newBlk (fun g4_ w21 L4 P4 e22 => ?_)
  have O4 := P4
  have L4 := Nat.le_trans hB.size L4
  have hB := ethen hB e22
  refine ⟨_, _, _, (O4.at 0 rfl rfl), ?_⟩
  refine ⟨_, _, _, (O4.at 1 rfl rfl), ?_⟩
  refine ⟨_, _, _, (O4.at 2 rfl rfl), ?_⟩
  refine ⟨_, (O4.at 3 rfl rfl), ?_⟩
  refine ⟨_, (O4.at 4 rfl rfl), ?_⟩
  obtain ⟨hp25, H⟩ := H
  obtain ⟨r23, hr24⟩ : ∃ r_, r_ = M.impl_hasWarp s0 x1 := ⟨_, rfl⟩
  have H := H r23 hr24
  refine (impl_hasWarp.con hp25 hr24 (R0_0.ext hB) hc0_0 (R0_1.ext hB) hc0_1 (R0_2.ext hB) hc0_2).mono ?_
  rintro _ w26 ⟨rfl, e27⟩
  have O4 := O4.ext e27
  have hB := ethen hB e27
  refine ⟨r23, rfl, ?_⟩
  refine bcase_mk (fun hc38 => ?_) (fun hc38 => ?_)
  · have H := (bcase_iff.1 H).1 hc38
    obtain rfl := hr.trans H.symm
    exact ⟨rfl, hB⟩
  · have H := (bcase_iff.1 H).2 hc38
    refine ⟨_, _, _, (O4.at 0 rfl rfl), ?_⟩
    refine ⟨_, _, _, (O4.at 1 rfl rfl), ?_⟩
    refine ⟨_, _, _, (O4.at 2 rfl rfl), ?_⟩
    refine ⟨_, (O4.at 3 rfl rfl), ?_⟩
    refine ⟨_, (O4.at 4 rfl rfl), ?_⟩
    obtain ⟨hp30, H⟩ := H
    obtain ⟨r28, hr29⟩ : ∃ r_, r_ = M.impl_Block_nextIns s0 x1 := ⟨_, rfl⟩
    have H := H r28 hr29
    refine (impl_Block_nextIns.con hp30 hr29 (R0_0.ext hB) hc0_0 (R0_1.ext hB) hc0_1 (R0_2.ext hB) hc0_2).mono ?_
    rintro _ w31 ⟨rfl, e32⟩
    have O4 := O4.ext e32
    have hB := ethen hB e32
    refine ⟨(.agg #[(.int .i64 r28.1.Op), (.int .i64 r28.1.A), (.int .i64 r28.1.B), (.int .i64 r28.1.C)]), ?_⟩
    refine ⟨r28.1.Op, trivial, ?_⟩
    refine ⟨r28.1.A, trivial, ?_⟩
    refine ⟨r28.1.B, trivial, ?_⟩
    refine ⟨r28.1.C, trivial, ?_⟩
    refine ⟨rfl, ?_⟩
    refine ⟨(.bool r28.2), ?_⟩
    refine ⟨r28.2, rfl, ?_⟩
    refine ⟨rfl, ?_⟩
    refine newBlk (fun g5_ w33 L5 P5 e34 => ?_)
    have N4_5 := O4.ne L5
    have O4 := O4.ext e34
    have O5 := P5
    have L5 := Nat.le_trans hB.size L5
    have hB := ethen hB e34
    refine stBlk O5 (o := 0) (cs' := #[(.int .i64 r28.1.Op), (.int .i64 r28.1.A), (.int .i64 r28.1.B), (.int .i64 r28.1.C)]) rfl rfl (Nat.le_of_ble_eq_true rfl) rfl (fun w35 P5 e36 => ?_)
    have O4_ := O4.chg e36 N4_5
    have O4 := O4_
    have hB := echg hB e36 L5
    have O5 := P5
    refine bcase_mk (fun hc37 => ?_) (fun hc37 => ?_)
    · have H := (bcase_iff.1 H).1 hc37
      obtain rfl := hr.trans H.symm
      exact ⟨rfl, hB⟩
    · have H := (bcase_iff.1 H).2 hc37
      refine ⟨_, (O5.at 0 rfl rfl), ?_⟩
      obtain rfl := hr.trans H.symm
      exact ⟨rfl, hB⟩

def laws_FnExactNextOp.vc (A0_0 : Option Addr) (n0_0 : Nat) (c0_0 : Nat) (A0_1 : Option Addr) (n0_1 : Nat) (c0_1 : Nat) (A0_2 : Option Addr) (n0_2 : Nat) (c0_2 : Nat) (x0_3 : Int) (x0_4 : Int) (x1 : Int) (w : World) (K : Value → World → Prop) : Prop :=
  newK w (.cells #[(.slice A0_0 n0_0 c0_0), (.slice A0_1 n0_1 c0_1), (.slice A0_2 n0_2 c0_2), (.int .i64 x0_3), (.int .i64 x0_4)] 57) fun g21 w22 => ∃ (A23 : Option Addr) (n24 : Nat) (c25 : Nat), w22.cell? ((⟨g21, 0, none⟩ : Addr).add 0) = some (.slice A23 n24 c25) ∧ ∃ (A26 : Option Addr) (n27 : Nat) (c28 : Nat), w22.cell? ((⟨g21, 0, none⟩ : Addr).add 1) = some (.slice A26 n27 c28) ∧ ∃ (A29 : Option Addr) (n30 : Nat) (c31 : Nat), w22.cell? ((⟨g21, 0, none⟩ : Addr).add 2) = some (.slice A29 n30 c31) ∧ ∃ (n32 : Int), w22.cell? ((⟨g21, 0, none⟩ : Addr).add 3) = some (.int .i64 n32) ∧ ∃ (n33 : Int), w22.cell? ((⟨g21, 0, none⟩ : Addr).add 4) = some (.int .i64 n33) ∧ Cll Try.prog 34 #[(.agg #[(.slice A23 n24 c25), (.slice A26 n27 c28), (.slice A29 n30 c31), (.int .i64 n32), (.int .i64 n33)]), (.int .i64 1048576)] w22 fun v34 w35 => (∃ (n36 : Int), v34 = (.int .i64 n36) ∧ bcase (decide (n36 < 0)) (K (.bool true) w35) (∃ (A37 : Option Addr) (n38 : Nat) (c39 : Nat), w35.cell? ((⟨g21, 0, none⟩ : Addr).add 0) = some (.slice A37 n38 c39) ∧ ∃ (A40 : Option Addr) (n41 : Nat) (c42 : Nat), w35.cell? ((⟨g21, 0, none⟩ : Addr).add 1) = some (.slice A40 n41 c42) ∧ ∃ (A43 : Option Addr) (n44 : Nat) (c45 : Nat), w35.cell? ((⟨g21, 0, none⟩ : Addr).add 2) = some (.slice A43 n44 c45) ∧ ∃ (n46 : Int), w35.cell? ((⟨g21, 0, none⟩ : Addr).add 3) = some (.int .i64 n46) ∧ ∃ (n47 : Int), w35.cell? ((⟨g21, 0, none⟩ : Addr).add 4) = some (.int .i64 n47) ∧ Cll Try.prog 36 #[(.agg #[(.slice A37 n38 c39), (.slice A40 n41 c42), (.slice A43 n44 c45), (.int .i64 n46), (.int .i64 n47)])] w35 fun v48 w49 => (∃ (A50 : Option Addr) (n51 : Nat) (c52 : Nat), True ∧ ∃ (A53 : Option Addr) (n54 : Nat) (c55 : Nat), True ∧ ∃ (A56 : Option Addr) (n57 : Nat) (c58 : Nat), True ∧ ∃ (n59 : Int), True ∧ ∃ (n60 : Int), True ∧ v48 = (.agg #[(.slice A50 n51 c52), (.slice A53 n54 c55), (.slice A56 n57 c58), (.int .i64 n59), (.int .i64 n60)]) ∧ Cll Try.prog 50 #[(.agg #[(.slice A50 n51 c52), (.slice A53 n54 c55), (.slice A56 n57 c58), (.int .i64 n59), (.int .i64 n60)]), (.int .i64 x1)] w49 fun v61 w62 => (∃ (n63 : Int), v61 = (.int .i64 n63) ∧ ∃ (A64 : Option Addr) (n65 : Nat) (c66 : Nat), w62.cell? ((⟨g21, 0, none⟩ : Addr).add 0) = some (.slice A64 n65 c66) ∧ ∃ (A67 : Option Addr) (n68 : Nat) (c69 : Nat), w62.cell? ((⟨g21, 0, none⟩ : Addr).add 1) = some (.slice A67 n68 c69) ∧ ∃ (A70 : Option Addr) (n71 : Nat) (c72 : Nat), w62.cell? ((⟨g21, 0, none⟩ : Addr).add 2) = some (.slice A70 n71 c72) ∧ ∃ (n73 : Int), w62.cell? ((⟨g21, 0, none⟩ : Addr).add 3) = some (.int .i64 n73) ∧ ∃ (n74 : Int), w62.cell? ((⟨g21, 0, none⟩ : Addr).add 4) = some (.int .i64 n74) ∧ Cll Try.prog 36 #[(.agg #[(.slice A64 n65 c66), (.slice A67 n68 c69), (.slice A70 n71 c72), (.int .i64 n73), (.int .i64 n74)])] w62 fun v75 w76 => (∃ (A77 : Option Addr) (n78 : Nat) (c79 : Nat), True ∧ ∃ (A80 : Option Addr) (n81 : Nat) (c82 : Nat), True ∧ ∃ (A83 : Option Addr) (n84 : Nat) (c85 : Nat), True ∧ ∃ (n86 : Int), True ∧ ∃ (n87 : Int), True ∧ v75 = (.agg #[(.slice A77 n78 c79), (.slice A80 n81 c82), (.slice A83 n84 c85), (.int .i64 n86), (.int .i64 n87)]) ∧ newK w76 (.cells #[(.slice none 0 0), (.slice none 0 0), (.slice none 0 0), (.int .i64 0), (.int .i64 0)] 48) fun g88 w89 => stCells (⟨g88, 0, none⟩ : Addr) [(.slice A77 n78 c79), (.slice A80 n81 c82), (.slice A83 n84 c85), (.int .i64 n86), (.int .i64 n87)] 0 w89 fun w90 => ∃ (A91 : Option Addr) (n92 : Nat) (c93 : Nat), w90.cell? ((⟨g88, 0, none⟩ : Addr).add 0) = some (.slice A91 n92 c93) ∧ ∃ (A94 : Option Addr) (n95 : Nat) (c96 : Nat), w90.cell? ((⟨g88, 0, none⟩ : Addr).add 1) = some (.slice A94 n95 c96) ∧ ∃ (A97 : Option Addr) (n98 : Nat) (c99 : Nat), w90.cell? ((⟨g88, 0, none⟩ : Addr).add 2) = some (.slice A97 n98 c99) ∧ ∃ (n100 : Int), w90.cell? ((⟨g88, 0, none⟩ : Addr).add 3) = some (.int .i64 n100) ∧ ∃ (n101 : Int), w90.cell? ((⟨g88, 0, none⟩ : Addr).add 4) = some (.int .i64 n101) ∧ Cll Try.prog 51 #[(.agg #[(.slice A91 n92 c93), (.slice A94 n95 c96), (.slice A97 n98 c99), (.int .i64 n100), (.int .i64 n101)]), (.int .i64 x1)] w90 fun v102 w103 => (∃ (n104 : Int), v102 = (.int .i64 n104) ∧ bcase (n104 != n63) (K (.bool false) w103) ((∃ M105 : Nat → Prop, ∃ (A106 : Option Addr) (n107 : Nat) (c108 : Nat), (¬ M105 ((⟨g88, 0, none⟩ : Addr)).block ∧ w103.cell? ((⟨g88, 0, none⟩ : Addr).add 0) = some (.slice A106 n107 c108)) ∧ ∃ (A109 : Option Addr) (n110 : Nat) (c111 : Nat), (¬ M105 ((⟨g88, 0, none⟩ : Addr)).block ∧ w103.cell? ((⟨g88, 0, none⟩ : Addr).add 1) = some (.slice A109 n110 c111)) ∧ ∃ (A112 : Option Addr) (n113 : Nat) (c114 : Nat), (¬ M105 ((⟨g88, 0, none⟩ : Addr)).block ∧ w103.cell? ((⟨g88, 0, none⟩ : Addr).add 2) = some (.slice A112 n113 c114)) ∧ ∃ (n115 : Int), (¬ M105 ((⟨g88, 0, none⟩ : Addr)).block ∧ w103.cell? ((⟨g88, 0, none⟩ : Addr).add 3) = some (.int .i64 n115)) ∧ ∃ (n116 : Int), (¬ M105 ((⟨g88, 0, none⟩ : Addr)).block ∧ w103.cell? ((⟨g88, 0, none⟩ : Addr).add 4) = some (.int .i64 n116)) ∧ ∃ (A117 : Option Addr) (n118 : Nat) (c119 : Nat), (¬ M105 ((⟨g21, 0, none⟩ : Addr)).block ∧ w103.cell? ((⟨g21, 0, none⟩ : Addr).add 0) = some (.slice A117 n118 c119)) ∧ ∃ (A120 : Option Addr) (n121 : Nat) (c122 : Nat), (¬ M105 ((⟨g21, 0, none⟩ : Addr)).block ∧ w103.cell? ((⟨g21, 0, none⟩ : Addr).add 1) = some (.slice A120 n121 c122)) ∧ ∃ (A123 : Option Addr) (n124 : Nat) (c125 : Nat), (¬ M105 ((⟨g21, 0, none⟩ : Addr)).block ∧ w103.cell? ((⟨g21, 0, none⟩ : Addr).add 2) = some (.slice A123 n124 c125)) ∧ ∃ (n126 : Int), (¬ M105 ((⟨g21, 0, none⟩ : Addr)).block ∧ w103.cell? ((⟨g21, 0, none⟩ : Addr).add 3) = some (.int .i64 n126)) ∧ ∃ (n127 : Int), (¬ M105 ((⟨g21, 0, none⟩ : Addr)).block ∧ w103.cell? ((⟨g21, 0, none⟩ : Addr).add 4) = some (.int .i64 n127)) ∧ Cll Try.prog 36 #[(.agg #[(.slice A117 n118 c119), (.slice A120 n121 c122), (.slice A123 n124 c125), (.int .i64 n126), (.int .i64 n127)])] w103.drew fun v128 w129 => (∃ (A130 : Option Addr) (n131 : Nat) (c132 : Nat), True ∧ ∃ (A133 : Option Addr) (n134 : Nat) (c135 : Nat), True ∧ ∃ (A136 : Option Addr) (n137 : Nat) (c138 : Nat), True ∧ ∃ (n139 : Int), True ∧ ∃ (n140 : Int), True ∧ v128 = (.agg #[(.slice A130 n131 c132), (.slice A133 n134 c135), (.slice A136 n137 c138), (.int .i64 n139), (.int .i64 n140)]) ∧ SameBut M105 w103 w129 ∧ Cll Try.prog 37 #[(.agg #[(.slice A106 n107 c108), (.slice A109 n110 c111), (.slice A112 n113 c114), (.int .i64 n115), (.int .i64 n116)]), (.agg #[(.slice A130 n131 c132), (.slice A133 n134 c135), (.slice A136 n137 c138), (.int .i64 n139), (.int .i64 n140)])] w129 fun v141 w142 => (∃ (b143 : Bool), v141 = (.bool b143) ∧ SameBut M105 w103 w142 ∧ bcase (!b143) (K (.bool false) w142) (K (.bool true) w142)))))))))))

def laws_FnExactNextOp.ann : Ann := (.seq .l (.seq .l (.seq .l (.seq (.seq .l (.two (.seq .l .l) .l)) (.seq .l (.seq .l (.seq .l (.seq (.seq .l (.two (.seq .l .l) .l)) (.seq (.seq .l (.two (.seq .l .l) .l)) (.seq .l .l))))))))))

theorem laws_FnExactNextOp.vc_eq (A0_0 : Option Addr) (n0_0 : Nat) (c0_0 : Nat) (A0_1 : Option Addr) (n0_1 : Nat) (c0_1 : Nat) (A0_2 : Option Addr) (n0_2 : Nat) (c0_2 : Nat) (x0_3 : Int) (x0_4 : Int) (x1 : Int) (w : World) (K : Value → World → Prop) : vcF Try.prog Try.f12 laws_FnExactNextOp.ann [(.agg #[(.slice A0_0 n0_0 c0_0), (.slice A0_1 n0_1 c0_1), (.slice A0_2 n0_2 c0_2), (.int .i64 x0_3), (.int .i64 x0_4)]), (.int .i64 x1)] K w = laws_FnExactNextOp.vc A0_0 n0_0 c0_0 A0_1 n0_1 c0_1 A0_2 n0_2 c0_2 x0_3 x0_4 x1 w K := by kernel_rfl

theorem laws_FnExactNextOp.start {A0_0 : Option Addr} {n0_0 : Nat} {c0_0 : Nat} {A0_1 : Option Addr} {n0_1 : Nat} {c0_1 : Nat} {A0_2 : Option Addr} {n0_2 : Nat} {c0_2 : Nat} {x0_3 : Int} {x0_4 : Int} {x1 : Int} {w : World} {K : Value → World → Prop} (h : laws_FnExactNextOp.vc A0_0 n0_0 c0_0 A0_1 n0_1 c0_1 A0_2 n0_2 c0_2 x0_3 x0_4 x1 w K) : Cll Try.prog 12 #[(.agg #[(.slice A0_0 n0_0 c0_0), (.slice A0_1 n0_1 c0_1), (.slice A0_2 n0_2 c0_2), (.int .i64 x0_3), (.int .i64 x0_4)]), (.int .i64 x1)] w K :=
  vcF_sound mixed (fn := Try.f12) (by kernel_rfl) (by kernel_rfl) (an := laws_FnExactNextOp.ann) (args := [(.agg #[(.slice A0_0 n0_0 c0_0), (.slice A0_1 n0_1 c0_1), (.slice A0_2 n0_2 c0_2), (.int .i64 x0_3), (.int .i64 x0_4)]), (.int .i64 x1)]) (by rw [laws_FnExactNextOp.vc_eq]; exact h)

theorem laws_FnExactNextOp.con {s0 : D.Block} {A0_0 : Option Addr} {c0_0 : Nat} {A0_1 : Option Addr} {c0_1 : Nat} {A0_2 : Option Addr} {c0_2 : Nat} {x1 : Int} {r : Bool} {w : World} (hp : M.laws_FnExactNextOp_pre s0 x1) (hr : r = M.laws_FnExactNextOp s0 x1) (R0_0 : Row el109 w A0_0 s0.Code) (hc0_0 : s0.Code.length ≤ c0_0) (R0_1 : RowW 138 el158 el3 w A0_1 s0.Warps) (hc0_1 : s0.Warps.length ≤ c0_1) (R0_2 : Row el3 w A0_2 s0.Memory) (hc0_2 : s0.Memory.length ≤ c0_2) :
    Cll Try.prog 12 #[(.agg #[(.slice A0_0 s0.Code.length c0_0), (.slice A0_1 s0.Warps.length c0_1), (.slice A0_2 s0.Memory.length c0_2), (.int .i64 s0.Waiting), (.int .i64 s0.Phase)]), (.int .i64 x1)] w (fun v_ w_ => v_ = (.bool r) ∧ Ext w w_) := by
  have H := wp.laws_FnExactNextOp.math s0 x1 hp
  have hB := Ext.refl w
  refine laws_FnExactNextOp.start ?_
  unfold laws_FnExactNextOp.vc
  unfold wp.laws_FnExactNextOp at H
  refine newBlk (fun g4_ w21 L4 P4 e22 => ?_)
  have O4 := P4
  have L4 := Nat.le_trans hB.size L4
  have hB := ethen hB e22
  refine ⟨_, _, _, (O4.at 0 rfl rfl), ?_⟩
  refine ⟨_, _, _, (O4.at 1 rfl rfl), ?_⟩
  refine ⟨_, _, _, (O4.at 2 rfl rfl), ?_⟩
  refine ⟨_, (O4.at 3 rfl rfl), ?_⟩
  refine ⟨_, (O4.at 4 rfl rfl), ?_⟩
  obtain ⟨hp25, H⟩ := H
  obtain ⟨r23, hr24⟩ : ∃ r_, r_ = M.laws_szBlock s0 1048576 := ⟨_, rfl⟩
  have H := H r23 hr24
  refine (laws_szBlock.con hp25 hr24 (R0_0.ext hB) hc0_0 (R0_1.ext hB) hc0_1 (R0_2.ext hB) hc0_2).mono ?_
  rintro _ w26 ⟨rfl, e27⟩
  have O4 := O4.ext e27
  have hB := ethen hB e27
  refine ⟨r23, rfl, ?_⟩
  refine bcase_mk (fun hc86 => ?_) (fun hc86 => ?_)
  · have H := (bcase_iff.1 H).1 hc86
    obtain rfl := hr.trans H.symm
    exact ⟨rfl, hB⟩
  · have H := (bcase_iff.1 H).2 hc86
    refine ⟨_, _, _, (O4.at 0 rfl rfl), ?_⟩
    refine ⟨_, _, _, (O4.at 1 rfl rfl), ?_⟩
    refine ⟨_, _, _, (O4.at 2 rfl rfl), ?_⟩
    refine ⟨_, (O4.at 3 rfl rfl), ?_⟩
    refine ⟨_, (O4.at 4 rfl rfl), ?_⟩
    obtain ⟨hp30, H⟩ := H
    obtain ⟨r28, hr29⟩ : ∃ r_, r_ = M.laws_toBlock s0 := ⟨_, rfl⟩
    have H := H r28 hr29
    refine (laws_toBlock.con hp30 hr29 (R0_0.ext hB) hc0_0 (R0_1.ext hB) hc0_1 (R0_2.ext hB) hc0_2).mono ?_
    rintro _ w31 ⟨A33, c34, A35, c36, F39, A37, c38, rfl, P5, P6, P7, N6_7, e32⟩
    have N5_4 := P5.apart_old O4.lt
    have N6_4 := P6.new_disbox O4 (Nat.le_refl _)
    have N7_4 := P7.apart_old O4.lt
    have O4 := O4.ext e32
    have O5 := P5.mono hB.size
    have O6 := P6.mono hB.size
    have O7 := P7.mono hB.size
    have hB := ethen hB e32
    refine ⟨A33, r28.Code.length, c34, trivial, ?_⟩
    refine ⟨A35, r28.Warps.length, c36, trivial, ?_⟩
    refine ⟨A37, r28.Memory.length, c38, trivial, ?_⟩
    refine ⟨r28.Waiting, trivial, ?_⟩
    refine ⟨r28.Phase, trivial, ?_⟩
    refine ⟨rfl, ?_⟩
    obtain ⟨hp42, H⟩ := H
    obtain ⟨r40, hr41⟩ : ∃ r_, r_ = M.spec_NextOp r28 x1 := ⟨_, rfl⟩
    have H := H r40 hr41
    refine (spec_NextOp.con hp42 hr41 O5.row O5.le O6.row O6.le O7.row O7.le).mono ?_
    rintro _ w43 ⟨rfl, e44⟩
    have O4 := O4.ext e44
    have O5 := O5.ext e44
    have O6 := O6.ext e44
    have O7 := O7.ext e44
    have hB := ethen hB e44
    refine ⟨r40, rfl, ?_⟩
    refine ⟨_, _, _, (O4.at 0 rfl rfl), ?_⟩
    refine ⟨_, _, _, (O4.at 1 rfl rfl), ?_⟩
    refine ⟨_, _, _, (O4.at 2 rfl rfl), ?_⟩
    refine ⟨_, (O4.at 3 rfl rfl), ?_⟩
    refine ⟨_, (O4.at 4 rfl rfl), ?_⟩
    obtain ⟨hp47, H⟩ := H
    obtain ⟨r45, hr46⟩ : ∃ r_, r_ = M.laws_toBlock s0 := ⟨_, rfl⟩
    have H := H r45 hr46
    refine (laws_toBlock.con hp47 hr46 (R0_0.ext hB) hc0_0 (R0_1.ext hB) hc0_1 (R0_2.ext hB) hc0_2).mono ?_
    rintro _ w48 ⟨A50, c51, A52, c53, F56, A54, c55, rfl, P8, P9, P10, N9_10, e49⟩
    have N8_4 := P8.apart_old O4.lt
    have N5_8 := Own.apart2_new O5 P8 (Nat.le_refl _)
    have N6_8 := O6.dis_new P8 (Nat.le_refl _)
    have N7_8 := Own.apart2_new O7 P8 (Nat.le_refl _)
    have N9_4 := P9.new_disbox O4 (Nat.le_refl _)
    have N9_5 := P9.new_dis O5 (Nat.le_refl _)
    have N6_9 := O6.dis_neww P9 (Nat.le_refl _)
    have N9_7 := P9.new_dis O7 (Nat.le_refl _)
    have N10_4 := P10.apart_old O4.lt
    have N5_10 := Own.apart2_new O5 P10 (Nat.le_refl _)
    have N6_10 := O6.dis_new P10 (Nat.le_refl _)
    have N7_10 := Own.apart2_new O7 P10 (Nat.le_refl _)
    have O4 := O4.ext e49
    have O5 := O5.ext e49
    have O6 := O6.ext e49
    have O7 := O7.ext e49
    have O8 := P8.mono hB.size
    have O9 := P9.mono hB.size
    have O10 := P10.mono hB.size
    have hB := ethen hB e49
    refine ⟨A50, r45.Code.length, c51, trivial, ?_⟩
    refine ⟨A52, r45.Warps.length, c53, trivial, ?_⟩
    refine ⟨A54, r45.Memory.length, c55, trivial, ?_⟩
    refine ⟨r45.Waiting, trivial, ?_⟩
    refine ⟨r45.Phase, trivial, ?_⟩
    refine ⟨rfl, ?_⟩
    refine newBlk (fun g11_ w57 L11 P11 e58 => ?_)
    have N4_11 := O4.ne L11
    have N5_11 := O5.apart_new L11
    have N6_11 := O6.dis_newbox L11
    have N7_11 := O7.apart_new L11
    have N8_11 := O8.apart_new L11
    have N9_11 := O9.dis_newbox L11
    have N10_11 := O10.apart_new L11
    have O4 := O4.ext e58
    have O5 := O5.ext e58
    have O6 := O6.ext e58
    have O7 := O7.ext e58
    have O8 := O8.ext e58
    have O9 := O9.ext e58
    have O10 := O10.ext e58
    have O11 := P11
    have L11 := Nat.le_trans hB.size L11
    have hB := ethen hB e58
    refine stBlk O11 (o := 0) (cs' := #[(.slice A50 r45.Code.length c51), (.slice A52 r45.Warps.length c53), (.slice A54 r45.Memory.length c55), (.int .i64 r45.Waiting), (.int .i64 r45.Phase)]) rfl rfl (Nat.le_of_ble_eq_true rfl) rfl (fun w59 P11 e60 => ?_)
    have O4_ := O4.chg e60 N4_11
    have O5_ := O5.chg e60 N5_11
    have O6_ := O6.chg e60 N6_11
    have O7_ := O7.chg e60 N7_11
    have O8_ := O8.chg e60 N8_11
    have O9_ := O9.chg e60 N9_11
    have O10_ := O10.chg e60 N10_11
    have O4 := O4_
    have O5 := O5_
    have O6 := O6_
    have O7 := O7_
    have O8 := O8_
    have O9 := O9_
    have O10 := O10_
    have hB := echg hB e60 L11
    have O11 := P11
    refine ⟨_, _, _, (O11.at 0 rfl rfl), ?_⟩
    refine ⟨_, _, _, (O11.at 1 rfl rfl), ?_⟩
    refine ⟨_, _, _, (O11.at 2 rfl rfl), ?_⟩
    refine ⟨_, (O11.at 3 rfl rfl), ?_⟩
    refine ⟨_, (O11.at 4 rfl rfl), ?_⟩
    obtain ⟨hp63, H⟩ := H
    obtain ⟨r61, hr62⟩ : ∃ r_, r_ = M.impl_NextOp r45 x1 := ⟨_, rfl⟩
    have H := H r61 hr62
    refine (impl_NextOp.con hp63 hr62 O8.row O8.le O9.row O9.le O10.row O10.le).mono ?_
    rintro _ w64 ⟨rfl, e65⟩
    have O4 := O4.ext e65
    have O5 := O5.ext e65
    have O6 := O6.ext e65
    have O7 := O7.ext e65
    have O8 := O8.ext e65
    have O9 := O9.ext e65
    have O10 := O10.ext e65
    have O11 := O11.ext e65
    have hB := ethen hB e65
    refine ⟨r61, rfl, ?_⟩
    refine bcase_mk (fun hc85 => ?_) (fun hc85 => ?_)
    · have H := (bcase_iff.1 H).1 hc85
      obtain rfl := hr.trans H.symm
      exact ⟨rfl, hB⟩
    · have H := (bcase_iff.1 H).2 hc85
      refine ⟨(fun _ => False), ?_⟩
      refine ⟨_, _, _, ⟨(fun h_ => h_), (O11.at 0 rfl rfl)⟩, ?_⟩
      refine ⟨_, _, _, ⟨(fun h_ => h_), (O11.at 1 rfl rfl)⟩, ?_⟩
      refine ⟨_, _, _, ⟨(fun h_ => h_), (O11.at 2 rfl rfl)⟩, ?_⟩
      refine ⟨_, ⟨(fun h_ => h_), (O11.at 3 rfl rfl)⟩, ?_⟩
      refine ⟨_, ⟨(fun h_ => h_), (O11.at 4 rfl rfl)⟩, ?_⟩
      refine ⟨_, _, _, ⟨(fun h_ => h_), (O4.at 0 rfl rfl)⟩, ?_⟩
      refine ⟨_, _, _, ⟨(fun h_ => h_), (O4.at 1 rfl rfl)⟩, ?_⟩
      refine ⟨_, _, _, ⟨(fun h_ => h_), (O4.at 2 rfl rfl)⟩, ?_⟩
      refine ⟨_, ⟨(fun h_ => h_), (O4.at 3 rfl rfl)⟩, ?_⟩
      refine ⟨_, ⟨(fun h_ => h_), (O4.at 4 rfl rfl)⟩, ?_⟩
      have hS66 := Chg.refl (fun _ => False) w64
      have O4 := O4.ext (Ext.drew _)
      have O5 := O5.ext (Ext.drew _)
      have O6 := O6.ext (Ext.drew _)
      have O7 := O7.ext (Ext.drew _)
      have O8 := O8.ext (Ext.drew _)
      have O9 := O9.ext (Ext.drew _)
      have O10 := O10.ext (Ext.drew _)
      have O11 := O11.ext (Ext.drew _)
      have hB := ethen hB (Ext.drew _)
      have hS66 := hS66.then (Ext.drew _)
      obtain ⟨hp69, H⟩ := H
      obtain ⟨r67, hr68⟩ : ∃ r_, r_ = M.laws_toBlock s0 := ⟨_, rfl⟩
      have H := H r67 hr68
      refine (laws_toBlock.con hp69 hr68 (R0_0.ext hB) hc0_0 (R0_1.ext hB) hc0_1 (R0_2.ext hB) hc0_2).mono ?_
      rintro _ w70 ⟨A72, c73, A74, c75, F78, A76, c77, rfl, P12, P13, P14, N13_14, e71⟩
      have N12_4 := P12.apart_old O4.lt
      have N5_12 := Own.apart2_new O5 P12 (Nat.le_refl _)
      have N6_12 := O6.dis_new P12 (Nat.le_refl _)
      have N7_12 := Own.apart2_new O7 P12 (Nat.le_refl _)
      have N8_12 := Own.apart2_new O8 P12 (Nat.le_refl _)
      have N9_12 := O9.dis_new P12 (Nat.le_refl _)
      have N10_12 := Own.apart2_new O10 P12 (Nat.le_refl _)
      have N12_11 := P12.apart_old O11.lt
      have N13_4 := P13.new_disbox O4 (Nat.le_refl _)
      have N13_5 := P13.new_dis O5 (Nat.le_refl _)
      have N6_13 := O6.dis_neww P13 (Nat.le_refl _)
      have N13_7 := P13.new_dis O7 (Nat.le_refl _)
      have N13_8 := P13.new_dis O8 (Nat.le_refl _)
      have N9_13 := O9.dis_neww P13 (Nat.le_refl _)
      have N13_10 := P13.new_dis O10 (Nat.le_refl _)
      have N13_11 := P13.new_disbox O11 (Nat.le_refl _)
      have N14_4 := P14.apart_old O4.lt
      have N5_14 := Own.apart2_new O5 P14 (Nat.le_refl _)
      have N6_14 := O6.dis_new P14 (Nat.le_refl _)
      have N7_14 := Own.apart2_new O7 P14 (Nat.le_refl _)
      have N8_14 := Own.apart2_new O8 P14 (Nat.le_refl _)
      have N9_14 := O9.dis_new P14 (Nat.le_refl _)
      have N10_14 := Own.apart2_new O10 P14 (Nat.le_refl _)
      have N14_11 := P14.apart_old O11.lt
      have O4 := O4.ext e71
      have O5 := O5.ext e71
      have O6 := O6.ext e71
      have O7 := O7.ext e71
      have O8 := O8.ext e71
      have O9 := O9.ext e71
      have O10 := O10.ext e71
      have O11 := O11.ext e71
      have LB12 := (P12.mono hS66.size).low
      have LB13 := (P13.mono hS66.size).lowW
      have LB14 := (P14.mono hS66.size).low
      have O12 := P12.mono hB.size
      have O13 := P13.mono hB.size
      have O14 := P14.mono hB.size
      have hB := ethen hB e71
      have hS66 := hS66.then e71
      refine ⟨A72, r67.Code.length, c73, trivial, ?_⟩
      refine ⟨A74, r67.Warps.length, c75, trivial, ?_⟩
      refine ⟨A76, r67.Memory.length, c77, trivial, ?_⟩
      refine ⟨r67.Waiting, trivial, ?_⟩
      refine ⟨r67.Phase, trivial, ?_⟩
      refine ⟨rfl, ?_⟩
      refine ⟨sameBut_chg hS66, ?_⟩
      obtain ⟨hp81, H⟩ := H
      obtain ⟨r79, hr80⟩ : ∃ r_, r_ = M.laws_eqBlock r45 r67 := ⟨_, rfl⟩
      have H := H r79 hr80
      refine (laws_eqBlock.con hp81 hr80 O8.row O8.le O9.row O9.le O10.row O10.le O12.row O12.le O13.row O13.le O14.row O14.le).mono ?_
      rintro _ w82 ⟨rfl, e83⟩
      have O4 := O4.ext e83
      have O5 := O5.ext e83
      have O6 := O6.ext e83
      have O7 := O7.ext e83
      have O8 := O8.ext e83
      have O9 := O9.ext e83
      have O10 := O10.ext e83
      have O11 := O11.ext e83
      have O12 := O12.ext e83
      have O13 := O13.ext e83
      have O14 := O14.ext e83
      have hB := ethen hB e83
      have hS66 := hS66.then e83
      refine ⟨r79, rfl, ?_⟩
      refine ⟨sameBut_chg hS66, ?_⟩
      refine bcase_mk (fun hc84 => ?_) (fun hc84 => ?_)
      · have H := (bcase_iff.1 H).1 hc84
        obtain rfl := hr.trans H.symm
        exact ⟨rfl, hB⟩
      · have H := (bcase_iff.1 H).2 hc84
        obtain rfl := hr.trans H.symm
        exact ⟨rfl, hB⟩

def spec_AtBarrier.vc (A0_0 : Option Addr) (n0_0 : Nat) (c0_0 : Nat) (A0_1 : Option Addr) (n0_1 : Nat) (c0_1 : Nat) (A0_2 : Option Addr) (n0_2 : Nat) (c0_2 : Nat) (x0_3 : Int) (x0_4 : Int) (x1 : Int) (w : World) (K : Value → World → Prop) : Prop :=
  newK w (.cells #[(.slice A0_0 n0_0 c0_0), (.slice A0_1 n0_1 c0_1), (.slice A0_2 n0_2 c0_2), (.int .i64 x0_3), (.int .i64 x0_4)] 48) fun g21 w22 => ∃ (A23 : Option Addr) (n24 : Nat) (c25 : Nat), w22.cell? ((⟨g21, 0, none⟩ : Addr).add 0) = some (.slice A23 n24 c25) ∧ ∃ (A26 : Option Addr) (n27 : Nat) (c28 : Nat), w22.cell? ((⟨g21, 0, none⟩ : Addr).add 1) = some (.slice A26 n27 c28) ∧ ∃ (A29 : Option Addr) (n30 : Nat) (c31 : Nat), w22.cell? ((⟨g21, 0, none⟩ : Addr).add 2) = some (.slice A29 n30 c31) ∧ ∃ (n32 : Int), w22.cell? ((⟨g21, 0, none⟩ : Addr).add 3) = some (.int .i64 n32) ∧ ∃ (n33 : Int), w22.cell? ((⟨g21, 0, none⟩ : Addr).add 4) = some (.int .i64 n33) ∧ Cll Try.prog 50 #[(.agg #[(.slice A23 n24 c25), (.slice A26 n27 c28), (.slice A29 n30 c31), (.int .i64 n32), (.int .i64 n33)]), (.int .i64 x1)] w22 fun v34 w35 => (∃ (n36 : Int), v34 = (.int .i64 n36) ∧ K (.bool (n36 == 16)) w35)

def spec_AtBarrier.ann : Ann := (.seq .l (.seq .l .l))

theorem spec_AtBarrier.vc_eq (A0_0 : Option Addr) (n0_0 : Nat) (c0_0 : Nat) (A0_1 : Option Addr) (n0_1 : Nat) (c0_1 : Nat) (A0_2 : Option Addr) (n0_2 : Nat) (c0_2 : Nat) (x0_3 : Int) (x0_4 : Int) (x1 : Int) (w : World) (K : Value → World → Prop) : vcF Try.prog Try.f52 spec_AtBarrier.ann [(.agg #[(.slice A0_0 n0_0 c0_0), (.slice A0_1 n0_1 c0_1), (.slice A0_2 n0_2 c0_2), (.int .i64 x0_3), (.int .i64 x0_4)]), (.int .i64 x1)] K w = spec_AtBarrier.vc A0_0 n0_0 c0_0 A0_1 n0_1 c0_1 A0_2 n0_2 c0_2 x0_3 x0_4 x1 w K := by kernel_rfl

theorem spec_AtBarrier.start {A0_0 : Option Addr} {n0_0 : Nat} {c0_0 : Nat} {A0_1 : Option Addr} {n0_1 : Nat} {c0_1 : Nat} {A0_2 : Option Addr} {n0_2 : Nat} {c0_2 : Nat} {x0_3 : Int} {x0_4 : Int} {x1 : Int} {w : World} {K : Value → World → Prop} (h : spec_AtBarrier.vc A0_0 n0_0 c0_0 A0_1 n0_1 c0_1 A0_2 n0_2 c0_2 x0_3 x0_4 x1 w K) : Cll Try.prog 52 #[(.agg #[(.slice A0_0 n0_0 c0_0), (.slice A0_1 n0_1 c0_1), (.slice A0_2 n0_2 c0_2), (.int .i64 x0_3), (.int .i64 x0_4)]), (.int .i64 x1)] w K :=
  vcF_sound mixed (fn := Try.f52) (by kernel_rfl) (by kernel_rfl) (an := spec_AtBarrier.ann) (args := [(.agg #[(.slice A0_0 n0_0 c0_0), (.slice A0_1 n0_1 c0_1), (.slice A0_2 n0_2 c0_2), (.int .i64 x0_3), (.int .i64 x0_4)]), (.int .i64 x1)]) (by rw [spec_AtBarrier.vc_eq]; exact h)

theorem spec_AtBarrier.con {s0 : D.Block} {A0_0 : Option Addr} {c0_0 : Nat} {A0_1 : Option Addr} {c0_1 : Nat} {A0_2 : Option Addr} {c0_2 : Nat} {x1 : Int} {r : Bool} {w : World} (hp : M.spec_AtBarrier_pre s0 x1) (hr : r = M.spec_AtBarrier s0 x1) (R0_0 : Row el99 w A0_0 s0.Code) (hc0_0 : s0.Code.length ≤ c0_0) (R0_1 : RowW 96 el134 el3 w A0_1 s0.Warps) (hc0_1 : s0.Warps.length ≤ c0_1) (R0_2 : Row el3 w A0_2 s0.Memory) (hc0_2 : s0.Memory.length ≤ c0_2) :
    Cll Try.prog 52 #[(.agg #[(.slice A0_0 s0.Code.length c0_0), (.slice A0_1 s0.Warps.length c0_1), (.slice A0_2 s0.Memory.length c0_2), (.int .i64 s0.Waiting), (.int .i64 s0.Phase)]), (.int .i64 x1)] w (fun v_ w_ => v_ = (.bool r) ∧ Ext w w_) := by
  have H := wp.spec_AtBarrier.math s0 x1 hp
  have hB := Ext.refl w
  refine spec_AtBarrier.start ?_
  unfold spec_AtBarrier.vc
  unfold wp.spec_AtBarrier at H
  refine newBlk (fun g4_ w21 L4 P4 e22 => ?_)
  have O4 := P4
  have L4 := Nat.le_trans hB.size L4
  have hB := ethen hB e22
  refine ⟨_, _, _, (O4.at 0 rfl rfl), ?_⟩
  refine ⟨_, _, _, (O4.at 1 rfl rfl), ?_⟩
  refine ⟨_, _, _, (O4.at 2 rfl rfl), ?_⟩
  refine ⟨_, (O4.at 3 rfl rfl), ?_⟩
  refine ⟨_, (O4.at 4 rfl rfl), ?_⟩
  obtain ⟨hp25, H⟩ := H
  obtain ⟨r23, hr24⟩ : ∃ r_, r_ = M.spec_NextOp s0 x1 := ⟨_, rfl⟩
  have H := H r23 hr24
  refine (spec_NextOp.con hp25 hr24 (R0_0.ext hB) hc0_0 (R0_1.ext hB) hc0_1 (R0_2.ext hB) hc0_2).mono ?_
  rintro _ w26 ⟨rfl, e27⟩
  have O4 := O4.ext e27
  have hB := ethen hB e27
  refine ⟨r23, rfl, ?_⟩
  obtain rfl := hr.trans H.symm
  exact ⟨rfl, hB⟩

def impl_AtBarrier.vc (A0_0 : Option Addr) (n0_0 : Nat) (c0_0 : Nat) (A0_1 : Option Addr) (n0_1 : Nat) (c0_1 : Nat) (A0_2 : Option Addr) (n0_2 : Nat) (c0_2 : Nat) (x0_3 : Int) (x0_4 : Int) (x1 : Int) (w : World) (K : Value → World → Prop) : Prop :=
  newK w (.cells #[(.slice A0_0 n0_0 c0_0), (.slice A0_1 n0_1 c0_1), (.slice A0_2 n0_2 c0_2), (.int .i64 x0_3), (.int .i64 x0_4)] 48) fun g21 w22 => ∃ (A23 : Option Addr) (n24 : Nat) (c25 : Nat), w22.cell? ((⟨g21, 0, none⟩ : Addr).add 0) = some (.slice A23 n24 c25) ∧ ∃ (A26 : Option Addr) (n27 : Nat) (c28 : Nat), w22.cell? ((⟨g21, 0, none⟩ : Addr).add 1) = some (.slice A26 n27 c28) ∧ ∃ (A29 : Option Addr) (n30 : Nat) (c31 : Nat), w22.cell? ((⟨g21, 0, none⟩ : Addr).add 2) = some (.slice A29 n30 c31) ∧ ∃ (n32 : Int), w22.cell? ((⟨g21, 0, none⟩ : Addr).add 3) = some (.int .i64 n32) ∧ ∃ (n33 : Int), w22.cell? ((⟨g21, 0, none⟩ : Addr).add 4) = some (.int .i64 n33) ∧ Cll Try.prog 51 #[(.agg #[(.slice A23 n24 c25), (.slice A26 n27 c28), (.slice A29 n30 c31), (.int .i64 n32), (.int .i64 n33)]), (.int .i64 x1)] w22 fun v34 w35 => (∃ (n36 : Int), v34 = (.int .i64 n36) ∧ K (.bool (n36 == 16)) w35)

def impl_AtBarrier.ann : Ann := (.seq .l (.seq .l .l))

theorem impl_AtBarrier.vc_eq (A0_0 : Option Addr) (n0_0 : Nat) (c0_0 : Nat) (A0_1 : Option Addr) (n0_1 : Nat) (c0_1 : Nat) (A0_2 : Option Addr) (n0_2 : Nat) (c0_2 : Nat) (x0_3 : Int) (x0_4 : Int) (x1 : Int) (w : World) (K : Value → World → Prop) : vcF Try.prog Try.f53 impl_AtBarrier.ann [(.agg #[(.slice A0_0 n0_0 c0_0), (.slice A0_1 n0_1 c0_1), (.slice A0_2 n0_2 c0_2), (.int .i64 x0_3), (.int .i64 x0_4)]), (.int .i64 x1)] K w = impl_AtBarrier.vc A0_0 n0_0 c0_0 A0_1 n0_1 c0_1 A0_2 n0_2 c0_2 x0_3 x0_4 x1 w K := by kernel_rfl

theorem impl_AtBarrier.start {A0_0 : Option Addr} {n0_0 : Nat} {c0_0 : Nat} {A0_1 : Option Addr} {n0_1 : Nat} {c0_1 : Nat} {A0_2 : Option Addr} {n0_2 : Nat} {c0_2 : Nat} {x0_3 : Int} {x0_4 : Int} {x1 : Int} {w : World} {K : Value → World → Prop} (h : impl_AtBarrier.vc A0_0 n0_0 c0_0 A0_1 n0_1 c0_1 A0_2 n0_2 c0_2 x0_3 x0_4 x1 w K) : Cll Try.prog 53 #[(.agg #[(.slice A0_0 n0_0 c0_0), (.slice A0_1 n0_1 c0_1), (.slice A0_2 n0_2 c0_2), (.int .i64 x0_3), (.int .i64 x0_4)]), (.int .i64 x1)] w K :=
  vcF_sound mixed (fn := Try.f53) (by kernel_rfl) (by kernel_rfl) (an := impl_AtBarrier.ann) (args := [(.agg #[(.slice A0_0 n0_0 c0_0), (.slice A0_1 n0_1 c0_1), (.slice A0_2 n0_2 c0_2), (.int .i64 x0_3), (.int .i64 x0_4)]), (.int .i64 x1)]) (by rw [impl_AtBarrier.vc_eq]; exact h)

theorem impl_AtBarrier.con {s0 : D.Block} {A0_0 : Option Addr} {c0_0 : Nat} {A0_1 : Option Addr} {c0_1 : Nat} {A0_2 : Option Addr} {c0_2 : Nat} {x1 : Int} {r : Bool} {w : World} (hp : M.impl_AtBarrier_pre s0 x1) (hr : r = M.impl_AtBarrier s0 x1) (R0_0 : Row el99 w A0_0 s0.Code) (hc0_0 : s0.Code.length ≤ c0_0) (R0_1 : RowW 96 el134 el3 w A0_1 s0.Warps) (hc0_1 : s0.Warps.length ≤ c0_1) (R0_2 : Row el3 w A0_2 s0.Memory) (hc0_2 : s0.Memory.length ≤ c0_2) :
    Cll Try.prog 53 #[(.agg #[(.slice A0_0 s0.Code.length c0_0), (.slice A0_1 s0.Warps.length c0_1), (.slice A0_2 s0.Memory.length c0_2), (.int .i64 s0.Waiting), (.int .i64 s0.Phase)]), (.int .i64 x1)] w (fun v_ w_ => v_ = (.bool r) ∧ Ext w w_) := by
  have H := wp.impl_AtBarrier.math s0 x1 hp
  have hB := Ext.refl w
  refine impl_AtBarrier.start ?_
  unfold impl_AtBarrier.vc
  unfold wp.impl_AtBarrier at H
  refine newBlk (fun g4_ w21 L4 P4 e22 => ?_)
  have O4 := P4
  have L4 := Nat.le_trans hB.size L4
  have hB := ethen hB e22
  refine ⟨_, _, _, (O4.at 0 rfl rfl), ?_⟩
  refine ⟨_, _, _, (O4.at 1 rfl rfl), ?_⟩
  refine ⟨_, _, _, (O4.at 2 rfl rfl), ?_⟩
  refine ⟨_, (O4.at 3 rfl rfl), ?_⟩
  refine ⟨_, (O4.at 4 rfl rfl), ?_⟩
  obtain ⟨hp25, H⟩ := H
  obtain ⟨r23, hr24⟩ : ∃ r_, r_ = M.impl_NextOp s0 x1 := ⟨_, rfl⟩
  have H := H r23 hr24
  refine (impl_NextOp.con hp25 hr24 (R0_0.ext hB) hc0_0 (R0_1.ext hB) hc0_1 (R0_2.ext hB) hc0_2).mono ?_
  rintro _ w26 ⟨rfl, e27⟩
  have O4 := O4.ext e27
  have hB := ethen hB e27
  refine ⟨r23, rfl, ?_⟩
  obtain rfl := hr.trans H.symm
  exact ⟨rfl, hB⟩

def laws_FnExactAtBarrier.vc (A0_0 : Option Addr) (n0_0 : Nat) (c0_0 : Nat) (A0_1 : Option Addr) (n0_1 : Nat) (c0_1 : Nat) (A0_2 : Option Addr) (n0_2 : Nat) (c0_2 : Nat) (x0_3 : Int) (x0_4 : Int) (x1 : Int) (w : World) (K : Value → World → Prop) : Prop :=
  newK w (.cells #[(.slice A0_0 n0_0 c0_0), (.slice A0_1 n0_1 c0_1), (.slice A0_2 n0_2 c0_2), (.int .i64 x0_3), (.int .i64 x0_4)] 57) fun g21 w22 => ∃ (A23 : Option Addr) (n24 : Nat) (c25 : Nat), w22.cell? ((⟨g21, 0, none⟩ : Addr).add 0) = some (.slice A23 n24 c25) ∧ ∃ (A26 : Option Addr) (n27 : Nat) (c28 : Nat), w22.cell? ((⟨g21, 0, none⟩ : Addr).add 1) = some (.slice A26 n27 c28) ∧ ∃ (A29 : Option Addr) (n30 : Nat) (c31 : Nat), w22.cell? ((⟨g21, 0, none⟩ : Addr).add 2) = some (.slice A29 n30 c31) ∧ ∃ (n32 : Int), w22.cell? ((⟨g21, 0, none⟩ : Addr).add 3) = some (.int .i64 n32) ∧ ∃ (n33 : Int), w22.cell? ((⟨g21, 0, none⟩ : Addr).add 4) = some (.int .i64 n33) ∧ Cll Try.prog 34 #[(.agg #[(.slice A23 n24 c25), (.slice A26 n27 c28), (.slice A29 n30 c31), (.int .i64 n32), (.int .i64 n33)]), (.int .i64 1048576)] w22 fun v34 w35 => (∃ (n36 : Int), v34 = (.int .i64 n36) ∧ bcase (decide (n36 < 0)) (K (.bool true) w35) (∃ (A37 : Option Addr) (n38 : Nat) (c39 : Nat), w35.cell? ((⟨g21, 0, none⟩ : Addr).add 0) = some (.slice A37 n38 c39) ∧ ∃ (A40 : Option Addr) (n41 : Nat) (c42 : Nat), w35.cell? ((⟨g21, 0, none⟩ : Addr).add 1) = some (.slice A40 n41 c42) ∧ ∃ (A43 : Option Addr) (n44 : Nat) (c45 : Nat), w35.cell? ((⟨g21, 0, none⟩ : Addr).add 2) = some (.slice A43 n44 c45) ∧ ∃ (n46 : Int), w35.cell? ((⟨g21, 0, none⟩ : Addr).add 3) = some (.int .i64 n46) ∧ ∃ (n47 : Int), w35.cell? ((⟨g21, 0, none⟩ : Addr).add 4) = some (.int .i64 n47) ∧ Cll Try.prog 36 #[(.agg #[(.slice A37 n38 c39), (.slice A40 n41 c42), (.slice A43 n44 c45), (.int .i64 n46), (.int .i64 n47)])] w35 fun v48 w49 => (∃ (A50 : Option Addr) (n51 : Nat) (c52 : Nat), True ∧ ∃ (A53 : Option Addr) (n54 : Nat) (c55 : Nat), True ∧ ∃ (A56 : Option Addr) (n57 : Nat) (c58 : Nat), True ∧ ∃ (n59 : Int), True ∧ ∃ (n60 : Int), True ∧ v48 = (.agg #[(.slice A50 n51 c52), (.slice A53 n54 c55), (.slice A56 n57 c58), (.int .i64 n59), (.int .i64 n60)]) ∧ Cll Try.prog 52 #[(.agg #[(.slice A50 n51 c52), (.slice A53 n54 c55), (.slice A56 n57 c58), (.int .i64 n59), (.int .i64 n60)]), (.int .i64 x1)] w49 fun v61 w62 => (∃ (b63 : Bool), v61 = (.bool b63) ∧ ∃ (A64 : Option Addr) (n65 : Nat) (c66 : Nat), w62.cell? ((⟨g21, 0, none⟩ : Addr).add 0) = some (.slice A64 n65 c66) ∧ ∃ (A67 : Option Addr) (n68 : Nat) (c69 : Nat), w62.cell? ((⟨g21, 0, none⟩ : Addr).add 1) = some (.slice A67 n68 c69) ∧ ∃ (A70 : Option Addr) (n71 : Nat) (c72 : Nat), w62.cell? ((⟨g21, 0, none⟩ : Addr).add 2) = some (.slice A70 n71 c72) ∧ ∃ (n73 : Int), w62.cell? ((⟨g21, 0, none⟩ : Addr).add 3) = some (.int .i64 n73) ∧ ∃ (n74 : Int), w62.cell? ((⟨g21, 0, none⟩ : Addr).add 4) = some (.int .i64 n74) ∧ Cll Try.prog 36 #[(.agg #[(.slice A64 n65 c66), (.slice A67 n68 c69), (.slice A70 n71 c72), (.int .i64 n73), (.int .i64 n74)])] w62 fun v75 w76 => (∃ (A77 : Option Addr) (n78 : Nat) (c79 : Nat), True ∧ ∃ (A80 : Option Addr) (n81 : Nat) (c82 : Nat), True ∧ ∃ (A83 : Option Addr) (n84 : Nat) (c85 : Nat), True ∧ ∃ (n86 : Int), True ∧ ∃ (n87 : Int), True ∧ v75 = (.agg #[(.slice A77 n78 c79), (.slice A80 n81 c82), (.slice A83 n84 c85), (.int .i64 n86), (.int .i64 n87)]) ∧ newK w76 (.cells #[(.slice none 0 0), (.slice none 0 0), (.slice none 0 0), (.int .i64 0), (.int .i64 0)] 48) fun g88 w89 => stCells (⟨g88, 0, none⟩ : Addr) [(.slice A77 n78 c79), (.slice A80 n81 c82), (.slice A83 n84 c85), (.int .i64 n86), (.int .i64 n87)] 0 w89 fun w90 => ∃ (A91 : Option Addr) (n92 : Nat) (c93 : Nat), w90.cell? ((⟨g88, 0, none⟩ : Addr).add 0) = some (.slice A91 n92 c93) ∧ ∃ (A94 : Option Addr) (n95 : Nat) (c96 : Nat), w90.cell? ((⟨g88, 0, none⟩ : Addr).add 1) = some (.slice A94 n95 c96) ∧ ∃ (A97 : Option Addr) (n98 : Nat) (c99 : Nat), w90.cell? ((⟨g88, 0, none⟩ : Addr).add 2) = some (.slice A97 n98 c99) ∧ ∃ (n100 : Int), w90.cell? ((⟨g88, 0, none⟩ : Addr).add 3) = some (.int .i64 n100) ∧ ∃ (n101 : Int), w90.cell? ((⟨g88, 0, none⟩ : Addr).add 4) = some (.int .i64 n101) ∧ Cll Try.prog 53 #[(.agg #[(.slice A91 n92 c93), (.slice A94 n95 c96), (.slice A97 n98 c99), (.int .i64 n100), (.int .i64 n101)]), (.int .i64 x1)] w90 fun v102 w103 => (∃ (b104 : Bool), v102 = (.bool b104) ∧ bcase (!(b104 == b63)) (K (.bool false) w103) ((∃ M105 : Nat → Prop, ∃ (A106 : Option Addr) (n107 : Nat) (c108 : Nat), (¬ M105 ((⟨g88, 0, none⟩ : Addr)).block ∧ w103.cell? ((⟨g88, 0, none⟩ : Addr).add 0) = some (.slice A106 n107 c108)) ∧ ∃ (A109 : Option Addr) (n110 : Nat) (c111 : Nat), (¬ M105 ((⟨g88, 0, none⟩ : Addr)).block ∧ w103.cell? ((⟨g88, 0, none⟩ : Addr).add 1) = some (.slice A109 n110 c111)) ∧ ∃ (A112 : Option Addr) (n113 : Nat) (c114 : Nat), (¬ M105 ((⟨g88, 0, none⟩ : Addr)).block ∧ w103.cell? ((⟨g88, 0, none⟩ : Addr).add 2) = some (.slice A112 n113 c114)) ∧ ∃ (n115 : Int), (¬ M105 ((⟨g88, 0, none⟩ : Addr)).block ∧ w103.cell? ((⟨g88, 0, none⟩ : Addr).add 3) = some (.int .i64 n115)) ∧ ∃ (n116 : Int), (¬ M105 ((⟨g88, 0, none⟩ : Addr)).block ∧ w103.cell? ((⟨g88, 0, none⟩ : Addr).add 4) = some (.int .i64 n116)) ∧ ∃ (A117 : Option Addr) (n118 : Nat) (c119 : Nat), (¬ M105 ((⟨g21, 0, none⟩ : Addr)).block ∧ w103.cell? ((⟨g21, 0, none⟩ : Addr).add 0) = some (.slice A117 n118 c119)) ∧ ∃ (A120 : Option Addr) (n121 : Nat) (c122 : Nat), (¬ M105 ((⟨g21, 0, none⟩ : Addr)).block ∧ w103.cell? ((⟨g21, 0, none⟩ : Addr).add 1) = some (.slice A120 n121 c122)) ∧ ∃ (A123 : Option Addr) (n124 : Nat) (c125 : Nat), (¬ M105 ((⟨g21, 0, none⟩ : Addr)).block ∧ w103.cell? ((⟨g21, 0, none⟩ : Addr).add 2) = some (.slice A123 n124 c125)) ∧ ∃ (n126 : Int), (¬ M105 ((⟨g21, 0, none⟩ : Addr)).block ∧ w103.cell? ((⟨g21, 0, none⟩ : Addr).add 3) = some (.int .i64 n126)) ∧ ∃ (n127 : Int), (¬ M105 ((⟨g21, 0, none⟩ : Addr)).block ∧ w103.cell? ((⟨g21, 0, none⟩ : Addr).add 4) = some (.int .i64 n127)) ∧ Cll Try.prog 36 #[(.agg #[(.slice A117 n118 c119), (.slice A120 n121 c122), (.slice A123 n124 c125), (.int .i64 n126), (.int .i64 n127)])] w103.drew fun v128 w129 => (∃ (A130 : Option Addr) (n131 : Nat) (c132 : Nat), True ∧ ∃ (A133 : Option Addr) (n134 : Nat) (c135 : Nat), True ∧ ∃ (A136 : Option Addr) (n137 : Nat) (c138 : Nat), True ∧ ∃ (n139 : Int), True ∧ ∃ (n140 : Int), True ∧ v128 = (.agg #[(.slice A130 n131 c132), (.slice A133 n134 c135), (.slice A136 n137 c138), (.int .i64 n139), (.int .i64 n140)]) ∧ SameBut M105 w103 w129 ∧ Cll Try.prog 37 #[(.agg #[(.slice A106 n107 c108), (.slice A109 n110 c111), (.slice A112 n113 c114), (.int .i64 n115), (.int .i64 n116)]), (.agg #[(.slice A130 n131 c132), (.slice A133 n134 c135), (.slice A136 n137 c138), (.int .i64 n139), (.int .i64 n140)])] w129 fun v141 w142 => (∃ (b143 : Bool), v141 = (.bool b143) ∧ SameBut M105 w103 w142 ∧ bcase (!b143) (K (.bool false) w142) (K (.bool true) w142)))))))))))

def laws_FnExactAtBarrier.ann : Ann := (.seq .l (.seq .l (.seq .l (.seq (.seq .l (.two (.seq .l .l) .l)) (.seq .l (.seq .l (.seq .l (.seq (.seq .l (.two (.seq .l .l) .l)) (.seq (.seq .l (.two (.seq .l .l) .l)) (.seq .l .l))))))))))

theorem laws_FnExactAtBarrier.vc_eq (A0_0 : Option Addr) (n0_0 : Nat) (c0_0 : Nat) (A0_1 : Option Addr) (n0_1 : Nat) (c0_1 : Nat) (A0_2 : Option Addr) (n0_2 : Nat) (c0_2 : Nat) (x0_3 : Int) (x0_4 : Int) (x1 : Int) (w : World) (K : Value → World → Prop) : vcF Try.prog Try.f13 laws_FnExactAtBarrier.ann [(.agg #[(.slice A0_0 n0_0 c0_0), (.slice A0_1 n0_1 c0_1), (.slice A0_2 n0_2 c0_2), (.int .i64 x0_3), (.int .i64 x0_4)]), (.int .i64 x1)] K w = laws_FnExactAtBarrier.vc A0_0 n0_0 c0_0 A0_1 n0_1 c0_1 A0_2 n0_2 c0_2 x0_3 x0_4 x1 w K := by kernel_rfl

theorem laws_FnExactAtBarrier.start {A0_0 : Option Addr} {n0_0 : Nat} {c0_0 : Nat} {A0_1 : Option Addr} {n0_1 : Nat} {c0_1 : Nat} {A0_2 : Option Addr} {n0_2 : Nat} {c0_2 : Nat} {x0_3 : Int} {x0_4 : Int} {x1 : Int} {w : World} {K : Value → World → Prop} (h : laws_FnExactAtBarrier.vc A0_0 n0_0 c0_0 A0_1 n0_1 c0_1 A0_2 n0_2 c0_2 x0_3 x0_4 x1 w K) : Cll Try.prog 13 #[(.agg #[(.slice A0_0 n0_0 c0_0), (.slice A0_1 n0_1 c0_1), (.slice A0_2 n0_2 c0_2), (.int .i64 x0_3), (.int .i64 x0_4)]), (.int .i64 x1)] w K :=
  vcF_sound mixed (fn := Try.f13) (by kernel_rfl) (by kernel_rfl) (an := laws_FnExactAtBarrier.ann) (args := [(.agg #[(.slice A0_0 n0_0 c0_0), (.slice A0_1 n0_1 c0_1), (.slice A0_2 n0_2 c0_2), (.int .i64 x0_3), (.int .i64 x0_4)]), (.int .i64 x1)]) (by rw [laws_FnExactAtBarrier.vc_eq]; exact h)

theorem laws_FnExactAtBarrier.con {s0 : D.Block} {A0_0 : Option Addr} {c0_0 : Nat} {A0_1 : Option Addr} {c0_1 : Nat} {A0_2 : Option Addr} {c0_2 : Nat} {x1 : Int} {r : Bool} {w : World} (hp : M.laws_FnExactAtBarrier_pre s0 x1) (hr : r = M.laws_FnExactAtBarrier s0 x1) (R0_0 : Row el109 w A0_0 s0.Code) (hc0_0 : s0.Code.length ≤ c0_0) (R0_1 : RowW 138 el158 el3 w A0_1 s0.Warps) (hc0_1 : s0.Warps.length ≤ c0_1) (R0_2 : Row el3 w A0_2 s0.Memory) (hc0_2 : s0.Memory.length ≤ c0_2) :
    Cll Try.prog 13 #[(.agg #[(.slice A0_0 s0.Code.length c0_0), (.slice A0_1 s0.Warps.length c0_1), (.slice A0_2 s0.Memory.length c0_2), (.int .i64 s0.Waiting), (.int .i64 s0.Phase)]), (.int .i64 x1)] w (fun v_ w_ => v_ = (.bool r) ∧ Ext w w_) := by
  have H := wp.laws_FnExactAtBarrier.math s0 x1 hp
  have hB := Ext.refl w
  refine laws_FnExactAtBarrier.start ?_
  unfold laws_FnExactAtBarrier.vc
  unfold wp.laws_FnExactAtBarrier at H
  refine newBlk (fun g4_ w21 L4 P4 e22 => ?_)
  have O4 := P4
  have L4 := Nat.le_trans hB.size L4
  have hB := ethen hB e22
  refine ⟨_, _, _, (O4.at 0 rfl rfl), ?_⟩
  refine ⟨_, _, _, (O4.at 1 rfl rfl), ?_⟩
  refine ⟨_, _, _, (O4.at 2 rfl rfl), ?_⟩
  refine ⟨_, (O4.at 3 rfl rfl), ?_⟩
  refine ⟨_, (O4.at 4 rfl rfl), ?_⟩
  obtain ⟨hp25, H⟩ := H
  obtain ⟨r23, hr24⟩ : ∃ r_, r_ = M.laws_szBlock s0 1048576 := ⟨_, rfl⟩
  have H := H r23 hr24
  refine (laws_szBlock.con hp25 hr24 (R0_0.ext hB) hc0_0 (R0_1.ext hB) hc0_1 (R0_2.ext hB) hc0_2).mono ?_
  rintro _ w26 ⟨rfl, e27⟩
  have O4 := O4.ext e27
  have hB := ethen hB e27
  refine ⟨r23, rfl, ?_⟩
  refine bcase_mk (fun hc86 => ?_) (fun hc86 => ?_)
  · have H := (bcase_iff.1 H).1 hc86
    obtain rfl := hr.trans H.symm
    exact ⟨rfl, hB⟩
  · have H := (bcase_iff.1 H).2 hc86
    refine ⟨_, _, _, (O4.at 0 rfl rfl), ?_⟩
    refine ⟨_, _, _, (O4.at 1 rfl rfl), ?_⟩
    refine ⟨_, _, _, (O4.at 2 rfl rfl), ?_⟩
    refine ⟨_, (O4.at 3 rfl rfl), ?_⟩
    refine ⟨_, (O4.at 4 rfl rfl), ?_⟩
    obtain ⟨hp30, H⟩ := H
    obtain ⟨r28, hr29⟩ : ∃ r_, r_ = M.laws_toBlock s0 := ⟨_, rfl⟩
    have H := H r28 hr29
    refine (laws_toBlock.con hp30 hr29 (R0_0.ext hB) hc0_0 (R0_1.ext hB) hc0_1 (R0_2.ext hB) hc0_2).mono ?_
    rintro _ w31 ⟨A33, c34, A35, c36, F39, A37, c38, rfl, P5, P6, P7, N6_7, e32⟩
    have N5_4 := P5.apart_old O4.lt
    have N6_4 := P6.new_disbox O4 (Nat.le_refl _)
    have N7_4 := P7.apart_old O4.lt
    have O4 := O4.ext e32
    have O5 := P5.mono hB.size
    have O6 := P6.mono hB.size
    have O7 := P7.mono hB.size
    have hB := ethen hB e32
    refine ⟨A33, r28.Code.length, c34, trivial, ?_⟩
    refine ⟨A35, r28.Warps.length, c36, trivial, ?_⟩
    refine ⟨A37, r28.Memory.length, c38, trivial, ?_⟩
    refine ⟨r28.Waiting, trivial, ?_⟩
    refine ⟨r28.Phase, trivial, ?_⟩
    refine ⟨rfl, ?_⟩
    obtain ⟨hp42, H⟩ := H
    obtain ⟨r40, hr41⟩ : ∃ r_, r_ = M.spec_AtBarrier r28 x1 := ⟨_, rfl⟩
    have H := H r40 hr41
    refine (spec_AtBarrier.con hp42 hr41 O5.row O5.le O6.row O6.le O7.row O7.le).mono ?_
    rintro _ w43 ⟨rfl, e44⟩
    have O4 := O4.ext e44
    have O5 := O5.ext e44
    have O6 := O6.ext e44
    have O7 := O7.ext e44
    have hB := ethen hB e44
    refine ⟨r40, rfl, ?_⟩
    refine ⟨_, _, _, (O4.at 0 rfl rfl), ?_⟩
    refine ⟨_, _, _, (O4.at 1 rfl rfl), ?_⟩
    refine ⟨_, _, _, (O4.at 2 rfl rfl), ?_⟩
    refine ⟨_, (O4.at 3 rfl rfl), ?_⟩
    refine ⟨_, (O4.at 4 rfl rfl), ?_⟩
    obtain ⟨hp47, H⟩ := H
    obtain ⟨r45, hr46⟩ : ∃ r_, r_ = M.laws_toBlock s0 := ⟨_, rfl⟩
    have H := H r45 hr46
    refine (laws_toBlock.con hp47 hr46 (R0_0.ext hB) hc0_0 (R0_1.ext hB) hc0_1 (R0_2.ext hB) hc0_2).mono ?_
    rintro _ w48 ⟨A50, c51, A52, c53, F56, A54, c55, rfl, P8, P9, P10, N9_10, e49⟩
    have N8_4 := P8.apart_old O4.lt
    have N5_8 := Own.apart2_new O5 P8 (Nat.le_refl _)
    have N6_8 := O6.dis_new P8 (Nat.le_refl _)
    have N7_8 := Own.apart2_new O7 P8 (Nat.le_refl _)
    have N9_4 := P9.new_disbox O4 (Nat.le_refl _)
    have N9_5 := P9.new_dis O5 (Nat.le_refl _)
    have N6_9 := O6.dis_neww P9 (Nat.le_refl _)
    have N9_7 := P9.new_dis O7 (Nat.le_refl _)
    have N10_4 := P10.apart_old O4.lt
    have N5_10 := Own.apart2_new O5 P10 (Nat.le_refl _)
    have N6_10 := O6.dis_new P10 (Nat.le_refl _)
    have N7_10 := Own.apart2_new O7 P10 (Nat.le_refl _)
    have O4 := O4.ext e49
    have O5 := O5.ext e49
    have O6 := O6.ext e49
    have O7 := O7.ext e49
    have O8 := P8.mono hB.size
    have O9 := P9.mono hB.size
    have O10 := P10.mono hB.size
    have hB := ethen hB e49
    refine ⟨A50, r45.Code.length, c51, trivial, ?_⟩
    refine ⟨A52, r45.Warps.length, c53, trivial, ?_⟩
    refine ⟨A54, r45.Memory.length, c55, trivial, ?_⟩
    refine ⟨r45.Waiting, trivial, ?_⟩
    refine ⟨r45.Phase, trivial, ?_⟩
    refine ⟨rfl, ?_⟩
    refine newBlk (fun g11_ w57 L11 P11 e58 => ?_)
    have N4_11 := O4.ne L11
    have N5_11 := O5.apart_new L11
    have N6_11 := O6.dis_newbox L11
    have N7_11 := O7.apart_new L11
    have N8_11 := O8.apart_new L11
    have N9_11 := O9.dis_newbox L11
    have N10_11 := O10.apart_new L11
    have O4 := O4.ext e58
    have O5 := O5.ext e58
    have O6 := O6.ext e58
    have O7 := O7.ext e58
    have O8 := O8.ext e58
    have O9 := O9.ext e58
    have O10 := O10.ext e58
    have O11 := P11
    have L11 := Nat.le_trans hB.size L11
    have hB := ethen hB e58
    refine stBlk O11 (o := 0) (cs' := #[(.slice A50 r45.Code.length c51), (.slice A52 r45.Warps.length c53), (.slice A54 r45.Memory.length c55), (.int .i64 r45.Waiting), (.int .i64 r45.Phase)]) rfl rfl (Nat.le_of_ble_eq_true rfl) rfl (fun w59 P11 e60 => ?_)
    have O4_ := O4.chg e60 N4_11
    have O5_ := O5.chg e60 N5_11
    have O6_ := O6.chg e60 N6_11
    have O7_ := O7.chg e60 N7_11
    have O8_ := O8.chg e60 N8_11
    have O9_ := O9.chg e60 N9_11
    have O10_ := O10.chg e60 N10_11
    have O4 := O4_
    have O5 := O5_
    have O6 := O6_
    have O7 := O7_
    have O8 := O8_
    have O9 := O9_
    have O10 := O10_
    have hB := echg hB e60 L11
    have O11 := P11
    refine ⟨_, _, _, (O11.at 0 rfl rfl), ?_⟩
    refine ⟨_, _, _, (O11.at 1 rfl rfl), ?_⟩
    refine ⟨_, _, _, (O11.at 2 rfl rfl), ?_⟩
    refine ⟨_, (O11.at 3 rfl rfl), ?_⟩
    refine ⟨_, (O11.at 4 rfl rfl), ?_⟩
    obtain ⟨hp63, H⟩ := H
    obtain ⟨r61, hr62⟩ : ∃ r_, r_ = M.impl_AtBarrier r45 x1 := ⟨_, rfl⟩
    have H := H r61 hr62
    refine (impl_AtBarrier.con hp63 hr62 O8.row O8.le O9.row O9.le O10.row O10.le).mono ?_
    rintro _ w64 ⟨rfl, e65⟩
    have O4 := O4.ext e65
    have O5 := O5.ext e65
    have O6 := O6.ext e65
    have O7 := O7.ext e65
    have O8 := O8.ext e65
    have O9 := O9.ext e65
    have O10 := O10.ext e65
    have O11 := O11.ext e65
    have hB := ethen hB e65
    refine ⟨r61, rfl, ?_⟩
    refine bcase_mk (fun hc85 => ?_) (fun hc85 => ?_)
    · have H := (bcase_iff.1 H).1 hc85
      obtain rfl := hr.trans H.symm
      exact ⟨rfl, hB⟩
    · have H := (bcase_iff.1 H).2 hc85
      refine ⟨(fun _ => False), ?_⟩
      refine ⟨_, _, _, ⟨(fun h_ => h_), (O11.at 0 rfl rfl)⟩, ?_⟩
      refine ⟨_, _, _, ⟨(fun h_ => h_), (O11.at 1 rfl rfl)⟩, ?_⟩
      refine ⟨_, _, _, ⟨(fun h_ => h_), (O11.at 2 rfl rfl)⟩, ?_⟩
      refine ⟨_, ⟨(fun h_ => h_), (O11.at 3 rfl rfl)⟩, ?_⟩
      refine ⟨_, ⟨(fun h_ => h_), (O11.at 4 rfl rfl)⟩, ?_⟩
      refine ⟨_, _, _, ⟨(fun h_ => h_), (O4.at 0 rfl rfl)⟩, ?_⟩
      refine ⟨_, _, _, ⟨(fun h_ => h_), (O4.at 1 rfl rfl)⟩, ?_⟩
      refine ⟨_, _, _, ⟨(fun h_ => h_), (O4.at 2 rfl rfl)⟩, ?_⟩
      refine ⟨_, ⟨(fun h_ => h_), (O4.at 3 rfl rfl)⟩, ?_⟩
      refine ⟨_, ⟨(fun h_ => h_), (O4.at 4 rfl rfl)⟩, ?_⟩
      have hS66 := Chg.refl (fun _ => False) w64
      have O4 := O4.ext (Ext.drew _)
      have O5 := O5.ext (Ext.drew _)
      have O6 := O6.ext (Ext.drew _)
      have O7 := O7.ext (Ext.drew _)
      have O8 := O8.ext (Ext.drew _)
      have O9 := O9.ext (Ext.drew _)
      have O10 := O10.ext (Ext.drew _)
      have O11 := O11.ext (Ext.drew _)
      have hB := ethen hB (Ext.drew _)
      have hS66 := hS66.then (Ext.drew _)
      obtain ⟨hp69, H⟩ := H
      obtain ⟨r67, hr68⟩ : ∃ r_, r_ = M.laws_toBlock s0 := ⟨_, rfl⟩
      have H := H r67 hr68
      refine (laws_toBlock.con hp69 hr68 (R0_0.ext hB) hc0_0 (R0_1.ext hB) hc0_1 (R0_2.ext hB) hc0_2).mono ?_
      rintro _ w70 ⟨A72, c73, A74, c75, F78, A76, c77, rfl, P12, P13, P14, N13_14, e71⟩
      have N12_4 := P12.apart_old O4.lt
      have N5_12 := Own.apart2_new O5 P12 (Nat.le_refl _)
      have N6_12 := O6.dis_new P12 (Nat.le_refl _)
      have N7_12 := Own.apart2_new O7 P12 (Nat.le_refl _)
      have N8_12 := Own.apart2_new O8 P12 (Nat.le_refl _)
      have N9_12 := O9.dis_new P12 (Nat.le_refl _)
      have N10_12 := Own.apart2_new O10 P12 (Nat.le_refl _)
      have N12_11 := P12.apart_old O11.lt
      have N13_4 := P13.new_disbox O4 (Nat.le_refl _)
      have N13_5 := P13.new_dis O5 (Nat.le_refl _)
      have N6_13 := O6.dis_neww P13 (Nat.le_refl _)
      have N13_7 := P13.new_dis O7 (Nat.le_refl _)
      have N13_8 := P13.new_dis O8 (Nat.le_refl _)
      have N9_13 := O9.dis_neww P13 (Nat.le_refl _)
      have N13_10 := P13.new_dis O10 (Nat.le_refl _)
      have N13_11 := P13.new_disbox O11 (Nat.le_refl _)
      have N14_4 := P14.apart_old O4.lt
      have N5_14 := Own.apart2_new O5 P14 (Nat.le_refl _)
      have N6_14 := O6.dis_new P14 (Nat.le_refl _)
      have N7_14 := Own.apart2_new O7 P14 (Nat.le_refl _)
      have N8_14 := Own.apart2_new O8 P14 (Nat.le_refl _)
      have N9_14 := O9.dis_new P14 (Nat.le_refl _)
      have N10_14 := Own.apart2_new O10 P14 (Nat.le_refl _)
      have N14_11 := P14.apart_old O11.lt
      have O4 := O4.ext e71
      have O5 := O5.ext e71
      have O6 := O6.ext e71
      have O7 := O7.ext e71
      have O8 := O8.ext e71
      have O9 := O9.ext e71
      have O10 := O10.ext e71
      have O11 := O11.ext e71
      have LB12 := (P12.mono hS66.size).low
      have LB13 := (P13.mono hS66.size).lowW
      have LB14 := (P14.mono hS66.size).low
      have O12 := P12.mono hB.size
      have O13 := P13.mono hB.size
      have O14 := P14.mono hB.size
      have hB := ethen hB e71
      have hS66 := hS66.then e71
      refine ⟨A72, r67.Code.length, c73, trivial, ?_⟩
      refine ⟨A74, r67.Warps.length, c75, trivial, ?_⟩
      refine ⟨A76, r67.Memory.length, c77, trivial, ?_⟩
      refine ⟨r67.Waiting, trivial, ?_⟩
      refine ⟨r67.Phase, trivial, ?_⟩
      refine ⟨rfl, ?_⟩
      refine ⟨sameBut_chg hS66, ?_⟩
      obtain ⟨hp81, H⟩ := H
      obtain ⟨r79, hr80⟩ : ∃ r_, r_ = M.laws_eqBlock r45 r67 := ⟨_, rfl⟩
      have H := H r79 hr80
      refine (laws_eqBlock.con hp81 hr80 O8.row O8.le O9.row O9.le O10.row O10.le O12.row O12.le O13.row O13.le O14.row O14.le).mono ?_
      rintro _ w82 ⟨rfl, e83⟩
      have O4 := O4.ext e83
      have O5 := O5.ext e83
      have O6 := O6.ext e83
      have O7 := O7.ext e83
      have O8 := O8.ext e83
      have O9 := O9.ext e83
      have O10 := O10.ext e83
      have O11 := O11.ext e83
      have O12 := O12.ext e83
      have O13 := O13.ext e83
      have O14 := O14.ext e83
      have hB := ethen hB e83
      have hS66 := hS66.then e83
      refine ⟨r79, rfl, ?_⟩
      refine ⟨sameBut_chg hS66, ?_⟩
      refine bcase_mk (fun hc84 => ?_) (fun hc84 => ?_)
      · have H := (bcase_iff.1 H).1 hc84
        obtain rfl := hr.trans H.symm
        exact ⟨rfl, hB⟩
      · have H := (bcase_iff.1 H).2 hc84
        obtain rfl := hr.trans H.symm
        exact ⟨rfl, hB⟩

def spec_IsSplitBarrier.vc (A0_0 : Option Addr) (n0_0 : Nat) (c0_0 : Nat) (A0_1 : Option Addr) (n0_1 : Nat) (c0_1 : Nat) (A0_2 : Option Addr) (n0_2 : Nat) (c0_2 : Nat) (x0_3 : Int) (x0_4 : Int) (x1 : Int) (w : World) (K : Value → World → Prop) : Prop :=
  newK w (.cells #[(.slice A0_0 n0_0 c0_0), (.slice A0_1 n0_1 c0_1), (.slice A0_2 n0_2 c0_2), (.int .i64 x0_3), (.int .i64 x0_4)] 48) fun g21 w22 => ∃ (A23 : Option Addr) (n24 : Nat) (c25 : Nat), w22.cell? ((⟨g21, 0, none⟩ : Addr).add 0) = some (.slice A23 n24 c25) ∧ ∃ (A26 : Option Addr) (n27 : Nat) (c28 : Nat), w22.cell? ((⟨g21, 0, none⟩ : Addr).add 1) = some (.slice A26 n27 c28) ∧ ∃ (A29 : Option Addr) (n30 : Nat) (c31 : Nat), w22.cell? ((⟨g21, 0, none⟩ : Addr).add 2) = some (.slice A29 n30 c31) ∧ ∃ (n32 : Int), w22.cell? ((⟨g21, 0, none⟩ : Addr).add 3) = some (.int .i64 n32) ∧ ∃ (n33 : Int), w22.cell? ((⟨g21, 0, none⟩ : Addr).add 4) = some (.int .i64 n33) ∧ Cll Try.prog 52 #[(.agg #[(.slice A23 n24 c25), (.slice A26 n27 c28), (.slice A29 n30 c31), (.int .i64 n32), (.int .i64 n33)]), (.int .i64 x1)] w22 fun v34 w35 => (∃ (b36 : Bool), v34 = (.bool b36) ∧ bcase b36 (∃ (A37 : Option Addr) (n38 : Nat) (c39 : Nat), w35.cell? (((⟨g21, 0, none⟩ : Addr).add 1).add 0) = some (.slice A37 n38 c39) ∧ ((0 : Int) ≤ x1 ∧ x1 < ((n38 : Nat) : Int) ∧ ∃ a40 : Addr, A37 = some a40 ∧ ∃ (A41 : Option Addr) (n42 : Nat) (c43 : Nat), w35.cell? (((a40.add ((x1.toNat) * 3)).add 1).add 0) = some (.slice A41 n42 c43) ∧ K (.bool (decide (((n42 : Nat) : Int) > 1))) w35)) (K (.bool false) w35))

def spec_IsSplitBarrier.ann : Ann := (.seq .l (.seq .l .l))

theorem spec_IsSplitBarrier.vc_eq (A0_0 : Option Addr) (n0_0 : Nat) (c0_0 : Nat) (A0_1 : Option Addr) (n0_1 : Nat) (c0_1 : Nat) (A0_2 : Option Addr) (n0_2 : Nat) (c0_2 : Nat) (x0_3 : Int) (x0_4 : Int) (x1 : Int) (w : World) (K : Value → World → Prop) : vcF Try.prog Try.f54 spec_IsSplitBarrier.ann [(.agg #[(.slice A0_0 n0_0 c0_0), (.slice A0_1 n0_1 c0_1), (.slice A0_2 n0_2 c0_2), (.int .i64 x0_3), (.int .i64 x0_4)]), (.int .i64 x1)] K w = spec_IsSplitBarrier.vc A0_0 n0_0 c0_0 A0_1 n0_1 c0_1 A0_2 n0_2 c0_2 x0_3 x0_4 x1 w K := by kernel_rfl

theorem spec_IsSplitBarrier.start {A0_0 : Option Addr} {n0_0 : Nat} {c0_0 : Nat} {A0_1 : Option Addr} {n0_1 : Nat} {c0_1 : Nat} {A0_2 : Option Addr} {n0_2 : Nat} {c0_2 : Nat} {x0_3 : Int} {x0_4 : Int} {x1 : Int} {w : World} {K : Value → World → Prop} (h : spec_IsSplitBarrier.vc A0_0 n0_0 c0_0 A0_1 n0_1 c0_1 A0_2 n0_2 c0_2 x0_3 x0_4 x1 w K) : Cll Try.prog 54 #[(.agg #[(.slice A0_0 n0_0 c0_0), (.slice A0_1 n0_1 c0_1), (.slice A0_2 n0_2 c0_2), (.int .i64 x0_3), (.int .i64 x0_4)]), (.int .i64 x1)] w K :=
  vcF_sound mixed (fn := Try.f54) (by kernel_rfl) (by kernel_rfl) (an := spec_IsSplitBarrier.ann) (args := [(.agg #[(.slice A0_0 n0_0 c0_0), (.slice A0_1 n0_1 c0_1), (.slice A0_2 n0_2 c0_2), (.int .i64 x0_3), (.int .i64 x0_4)]), (.int .i64 x1)]) (by rw [spec_IsSplitBarrier.vc_eq]; exact h)

theorem spec_IsSplitBarrier.con {s0 : D.Block} {A0_0 : Option Addr} {c0_0 : Nat} {A0_1 : Option Addr} {c0_1 : Nat} {A0_2 : Option Addr} {c0_2 : Nat} {x1 : Int} {r : Bool} {w : World} (hp : M.spec_IsSplitBarrier_pre s0 x1) (hr : r = M.spec_IsSplitBarrier s0 x1) (R0_0 : Row el99 w A0_0 s0.Code) (hc0_0 : s0.Code.length ≤ c0_0) (R0_1 : RowW 96 el134 el3 w A0_1 s0.Warps) (hc0_1 : s0.Warps.length ≤ c0_1) (R0_2 : Row el3 w A0_2 s0.Memory) (hc0_2 : s0.Memory.length ≤ c0_2) :
    Cll Try.prog 54 #[(.agg #[(.slice A0_0 s0.Code.length c0_0), (.slice A0_1 s0.Warps.length c0_1), (.slice A0_2 s0.Memory.length c0_2), (.int .i64 s0.Waiting), (.int .i64 s0.Phase)]), (.int .i64 x1)] w (fun v_ w_ => v_ = (.bool r) ∧ Ext w w_) := by
  have H := wp.spec_IsSplitBarrier.math s0 x1 hp
  have hB := Ext.refl w
  refine spec_IsSplitBarrier.start ?_
  unfold spec_IsSplitBarrier.vc
  unfold wp.spec_IsSplitBarrier at H
  refine newBlk (fun g4_ w21 L4 P4 e22 => ?_)
  have O4 := P4
  have L4 := Nat.le_trans hB.size L4
  have hB := ethen hB e22
  refine ⟨_, _, _, (O4.at 0 rfl rfl), ?_⟩
  refine ⟨_, _, _, (O4.at 1 rfl rfl), ?_⟩
  refine ⟨_, _, _, (O4.at 2 rfl rfl), ?_⟩
  refine ⟨_, (O4.at 3 rfl rfl), ?_⟩
  refine ⟨_, (O4.at 4 rfl rfl), ?_⟩
  obtain ⟨hp25, H⟩ := H
  obtain ⟨r23, hr24⟩ : ∃ r_, r_ = M.spec_AtBarrier s0 x1 := ⟨_, rfl⟩
  have H := H r23 hr24
  refine (spec_AtBarrier.con hp25 hr24 (R0_0.ext hB) hc0_0 (R0_1.ext hB) hc0_1 (R0_2.ext hB) hc0_2).mono ?_
  rintro _ w26 ⟨rfl, e27⟩
  have O4 := O4.ext e27
  have hB := ethen hB e27
  refine ⟨r23, rfl, ?_⟩
  refine bcase_mk (fun hc44 => ?_) (fun hc44 => ?_)
  · have H := (bcase_iff.1 H).1 hc44
    refine ⟨_, _, _, (O4.at 1 rfl rfl), ?_⟩
    obtain ⟨⟨h0_31, h1_32⟩, H⟩ := H
    obtain ⟨a29, ha30, A36, c37, A38, c39, f33, f34, f35, R40, hle42, R41, hle43⟩ := RowW.at R0_1 h0_31 h1_32
    refine ⟨h0_31, h1_32, a29, ha30, ?_⟩
    refine ⟨_, _, _, (Ext.cell hB f34), ?_⟩
    obtain rfl := hr.trans H.symm
    exact ⟨rfl, hB⟩
  · have H := (bcase_iff.1 H).2 hc44
    obtain rfl := hr.trans H.symm
    exact ⟨rfl, hB⟩

def impl_IsSplitBarrier.vc (A0_0 : Option Addr) (n0_0 : Nat) (c0_0 : Nat) (A0_1 : Option Addr) (n0_1 : Nat) (c0_1 : Nat) (A0_2 : Option Addr) (n0_2 : Nat) (c0_2 : Nat) (x0_3 : Int) (x0_4 : Int) (x1 : Int) (w : World) (K : Value → World → Prop) : Prop :=
  newK w (.cells #[(.slice A0_0 n0_0 c0_0), (.slice A0_1 n0_1 c0_1), (.slice A0_2 n0_2 c0_2), (.int .i64 x0_3), (.int .i64 x0_4)] 48) fun g21 w22 => ∃ (A23 : Option Addr) (n24 : Nat) (c25 : Nat), w22.cell? ((⟨g21, 0, none⟩ : Addr).add 0) = some (.slice A23 n24 c25) ∧ ∃ (A26 : Option Addr) (n27 : Nat) (c28 : Nat), w22.cell? ((⟨g21, 0, none⟩ : Addr).add 1) = some (.slice A26 n27 c28) ∧ ∃ (A29 : Option Addr) (n30 : Nat) (c31 : Nat), w22.cell? ((⟨g21, 0, none⟩ : Addr).add 2) = some (.slice A29 n30 c31) ∧ ∃ (n32 : Int), w22.cell? ((⟨g21, 0, none⟩ : Addr).add 3) = some (.int .i64 n32) ∧ ∃ (n33 : Int), w22.cell? ((⟨g21, 0, none⟩ : Addr).add 4) = some (.int .i64 n33) ∧ Cll Try.prog 53 #[(.agg #[(.slice A23 n24 c25), (.slice A26 n27 c28), (.slice A29 n30 c31), (.int .i64 n32), (.int .i64 n33)]), (.int .i64 x1)] w22 fun v34 w35 => (∃ (b36 : Bool), v34 = (.bool b36) ∧ bcase b36 (∃ (A37 : Option Addr) (n38 : Nat) (c39 : Nat), w35.cell? (((⟨g21, 0, none⟩ : Addr).add 1).add 0) = some (.slice A37 n38 c39) ∧ ((0 : Int) ≤ x1 ∧ x1 < ((n38 : Nat) : Int) ∧ ∃ a40 : Addr, A37 = some a40 ∧ ∃ (A41 : Option Addr) (n42 : Nat) (c43 : Nat), w35.cell? (((a40.add ((x1.toNat) * 3)).add 1).add 0) = some (.slice A41 n42 c43) ∧ K (.bool (decide (((n42 : Nat) : Int) > 1))) w35)) (K (.bool false) w35))

def impl_IsSplitBarrier.ann : Ann := (.seq .l (.seq .l .l))

theorem impl_IsSplitBarrier.vc_eq (A0_0 : Option Addr) (n0_0 : Nat) (c0_0 : Nat) (A0_1 : Option Addr) (n0_1 : Nat) (c0_1 : Nat) (A0_2 : Option Addr) (n0_2 : Nat) (c0_2 : Nat) (x0_3 : Int) (x0_4 : Int) (x1 : Int) (w : World) (K : Value → World → Prop) : vcF Try.prog Try.f55 impl_IsSplitBarrier.ann [(.agg #[(.slice A0_0 n0_0 c0_0), (.slice A0_1 n0_1 c0_1), (.slice A0_2 n0_2 c0_2), (.int .i64 x0_3), (.int .i64 x0_4)]), (.int .i64 x1)] K w = impl_IsSplitBarrier.vc A0_0 n0_0 c0_0 A0_1 n0_1 c0_1 A0_2 n0_2 c0_2 x0_3 x0_4 x1 w K := by kernel_rfl

theorem impl_IsSplitBarrier.start {A0_0 : Option Addr} {n0_0 : Nat} {c0_0 : Nat} {A0_1 : Option Addr} {n0_1 : Nat} {c0_1 : Nat} {A0_2 : Option Addr} {n0_2 : Nat} {c0_2 : Nat} {x0_3 : Int} {x0_4 : Int} {x1 : Int} {w : World} {K : Value → World → Prop} (h : impl_IsSplitBarrier.vc A0_0 n0_0 c0_0 A0_1 n0_1 c0_1 A0_2 n0_2 c0_2 x0_3 x0_4 x1 w K) : Cll Try.prog 55 #[(.agg #[(.slice A0_0 n0_0 c0_0), (.slice A0_1 n0_1 c0_1), (.slice A0_2 n0_2 c0_2), (.int .i64 x0_3), (.int .i64 x0_4)]), (.int .i64 x1)] w K :=
  vcF_sound mixed (fn := Try.f55) (by kernel_rfl) (by kernel_rfl) (an := impl_IsSplitBarrier.ann) (args := [(.agg #[(.slice A0_0 n0_0 c0_0), (.slice A0_1 n0_1 c0_1), (.slice A0_2 n0_2 c0_2), (.int .i64 x0_3), (.int .i64 x0_4)]), (.int .i64 x1)]) (by rw [impl_IsSplitBarrier.vc_eq]; exact h)

theorem impl_IsSplitBarrier.con {s0 : D.Block} {A0_0 : Option Addr} {c0_0 : Nat} {A0_1 : Option Addr} {c0_1 : Nat} {A0_2 : Option Addr} {c0_2 : Nat} {x1 : Int} {r : Bool} {w : World} (hp : M.impl_IsSplitBarrier_pre s0 x1) (hr : r = M.impl_IsSplitBarrier s0 x1) (R0_0 : Row el99 w A0_0 s0.Code) (hc0_0 : s0.Code.length ≤ c0_0) (R0_1 : RowW 96 el134 el3 w A0_1 s0.Warps) (hc0_1 : s0.Warps.length ≤ c0_1) (R0_2 : Row el3 w A0_2 s0.Memory) (hc0_2 : s0.Memory.length ≤ c0_2) :
    Cll Try.prog 55 #[(.agg #[(.slice A0_0 s0.Code.length c0_0), (.slice A0_1 s0.Warps.length c0_1), (.slice A0_2 s0.Memory.length c0_2), (.int .i64 s0.Waiting), (.int .i64 s0.Phase)]), (.int .i64 x1)] w (fun v_ w_ => v_ = (.bool r) ∧ Ext w w_) := by
  have H := wp.impl_IsSplitBarrier.math s0 x1 hp
  have hB := Ext.refl w
  refine impl_IsSplitBarrier.start ?_
  unfold impl_IsSplitBarrier.vc
  unfold wp.impl_IsSplitBarrier at H
  refine newBlk (fun g4_ w21 L4 P4 e22 => ?_)
  have O4 := P4
  have L4 := Nat.le_trans hB.size L4
  have hB := ethen hB e22
  refine ⟨_, _, _, (O4.at 0 rfl rfl), ?_⟩
  refine ⟨_, _, _, (O4.at 1 rfl rfl), ?_⟩
  refine ⟨_, _, _, (O4.at 2 rfl rfl), ?_⟩
  refine ⟨_, (O4.at 3 rfl rfl), ?_⟩
  refine ⟨_, (O4.at 4 rfl rfl), ?_⟩
  obtain ⟨hp25, H⟩ := H
  obtain ⟨r23, hr24⟩ : ∃ r_, r_ = M.impl_AtBarrier s0 x1 := ⟨_, rfl⟩
  have H := H r23 hr24
  refine (impl_AtBarrier.con hp25 hr24 (R0_0.ext hB) hc0_0 (R0_1.ext hB) hc0_1 (R0_2.ext hB) hc0_2).mono ?_
  rintro _ w26 ⟨rfl, e27⟩
  have O4 := O4.ext e27
  have hB := ethen hB e27
  refine ⟨r23, rfl, ?_⟩
  refine bcase_mk (fun hc44 => ?_) (fun hc44 => ?_)
  · have H := (bcase_iff.1 H).1 hc44
    refine ⟨_, _, _, (O4.at 1 rfl rfl), ?_⟩
    obtain ⟨⟨h0_31, h1_32⟩, H⟩ := H
    obtain ⟨a29, ha30, A36, c37, A38, c39, f33, f34, f35, R40, hle42, R41, hle43⟩ := RowW.at R0_1 h0_31 h1_32
    refine ⟨h0_31, h1_32, a29, ha30, ?_⟩
    refine ⟨_, _, _, (Ext.cell hB f34), ?_⟩
    obtain rfl := hr.trans H.symm
    exact ⟨rfl, hB⟩
  · have H := (bcase_iff.1 H).2 hc44
    obtain rfl := hr.trans H.symm
    exact ⟨rfl, hB⟩

def laws_FnExactIsSplitBarrier.vc (A0_0 : Option Addr) (n0_0 : Nat) (c0_0 : Nat) (A0_1 : Option Addr) (n0_1 : Nat) (c0_1 : Nat) (A0_2 : Option Addr) (n0_2 : Nat) (c0_2 : Nat) (x0_3 : Int) (x0_4 : Int) (x1 : Int) (w : World) (K : Value → World → Prop) : Prop :=
  newK w (.cells #[(.slice A0_0 n0_0 c0_0), (.slice A0_1 n0_1 c0_1), (.slice A0_2 n0_2 c0_2), (.int .i64 x0_3), (.int .i64 x0_4)] 57) fun g21 w22 => ∃ (A23 : Option Addr) (n24 : Nat) (c25 : Nat), w22.cell? ((⟨g21, 0, none⟩ : Addr).add 0) = some (.slice A23 n24 c25) ∧ ∃ (A26 : Option Addr) (n27 : Nat) (c28 : Nat), w22.cell? ((⟨g21, 0, none⟩ : Addr).add 1) = some (.slice A26 n27 c28) ∧ ∃ (A29 : Option Addr) (n30 : Nat) (c31 : Nat), w22.cell? ((⟨g21, 0, none⟩ : Addr).add 2) = some (.slice A29 n30 c31) ∧ ∃ (n32 : Int), w22.cell? ((⟨g21, 0, none⟩ : Addr).add 3) = some (.int .i64 n32) ∧ ∃ (n33 : Int), w22.cell? ((⟨g21, 0, none⟩ : Addr).add 4) = some (.int .i64 n33) ∧ Cll Try.prog 34 #[(.agg #[(.slice A23 n24 c25), (.slice A26 n27 c28), (.slice A29 n30 c31), (.int .i64 n32), (.int .i64 n33)]), (.int .i64 1048576)] w22 fun v34 w35 => (∃ (n36 : Int), v34 = (.int .i64 n36) ∧ bcase (decide (n36 < 0)) (K (.bool true) w35) (∃ (A37 : Option Addr) (n38 : Nat) (c39 : Nat), w35.cell? ((⟨g21, 0, none⟩ : Addr).add 0) = some (.slice A37 n38 c39) ∧ ∃ (A40 : Option Addr) (n41 : Nat) (c42 : Nat), w35.cell? ((⟨g21, 0, none⟩ : Addr).add 1) = some (.slice A40 n41 c42) ∧ ∃ (A43 : Option Addr) (n44 : Nat) (c45 : Nat), w35.cell? ((⟨g21, 0, none⟩ : Addr).add 2) = some (.slice A43 n44 c45) ∧ ∃ (n46 : Int), w35.cell? ((⟨g21, 0, none⟩ : Addr).add 3) = some (.int .i64 n46) ∧ ∃ (n47 : Int), w35.cell? ((⟨g21, 0, none⟩ : Addr).add 4) = some (.int .i64 n47) ∧ Cll Try.prog 36 #[(.agg #[(.slice A37 n38 c39), (.slice A40 n41 c42), (.slice A43 n44 c45), (.int .i64 n46), (.int .i64 n47)])] w35 fun v48 w49 => (∃ (A50 : Option Addr) (n51 : Nat) (c52 : Nat), True ∧ ∃ (A53 : Option Addr) (n54 : Nat) (c55 : Nat), True ∧ ∃ (A56 : Option Addr) (n57 : Nat) (c58 : Nat), True ∧ ∃ (n59 : Int), True ∧ ∃ (n60 : Int), True ∧ v48 = (.agg #[(.slice A50 n51 c52), (.slice A53 n54 c55), (.slice A56 n57 c58), (.int .i64 n59), (.int .i64 n60)]) ∧ Cll Try.prog 54 #[(.agg #[(.slice A50 n51 c52), (.slice A53 n54 c55), (.slice A56 n57 c58), (.int .i64 n59), (.int .i64 n60)]), (.int .i64 x1)] w49 fun v61 w62 => (∃ (b63 : Bool), v61 = (.bool b63) ∧ ∃ (A64 : Option Addr) (n65 : Nat) (c66 : Nat), w62.cell? ((⟨g21, 0, none⟩ : Addr).add 0) = some (.slice A64 n65 c66) ∧ ∃ (A67 : Option Addr) (n68 : Nat) (c69 : Nat), w62.cell? ((⟨g21, 0, none⟩ : Addr).add 1) = some (.slice A67 n68 c69) ∧ ∃ (A70 : Option Addr) (n71 : Nat) (c72 : Nat), w62.cell? ((⟨g21, 0, none⟩ : Addr).add 2) = some (.slice A70 n71 c72) ∧ ∃ (n73 : Int), w62.cell? ((⟨g21, 0, none⟩ : Addr).add 3) = some (.int .i64 n73) ∧ ∃ (n74 : Int), w62.cell? ((⟨g21, 0, none⟩ : Addr).add 4) = some (.int .i64 n74) ∧ Cll Try.prog 36 #[(.agg #[(.slice A64 n65 c66), (.slice A67 n68 c69), (.slice A70 n71 c72), (.int .i64 n73), (.int .i64 n74)])] w62 fun v75 w76 => (∃ (A77 : Option Addr) (n78 : Nat) (c79 : Nat), True ∧ ∃ (A80 : Option Addr) (n81 : Nat) (c82 : Nat), True ∧ ∃ (A83 : Option Addr) (n84 : Nat) (c85 : Nat), True ∧ ∃ (n86 : Int), True ∧ ∃ (n87 : Int), True ∧ v75 = (.agg #[(.slice A77 n78 c79), (.slice A80 n81 c82), (.slice A83 n84 c85), (.int .i64 n86), (.int .i64 n87)]) ∧ newK w76 (.cells #[(.slice none 0 0), (.slice none 0 0), (.slice none 0 0), (.int .i64 0), (.int .i64 0)] 48) fun g88 w89 => stCells (⟨g88, 0, none⟩ : Addr) [(.slice A77 n78 c79), (.slice A80 n81 c82), (.slice A83 n84 c85), (.int .i64 n86), (.int .i64 n87)] 0 w89 fun w90 => ∃ (A91 : Option Addr) (n92 : Nat) (c93 : Nat), w90.cell? ((⟨g88, 0, none⟩ : Addr).add 0) = some (.slice A91 n92 c93) ∧ ∃ (A94 : Option Addr) (n95 : Nat) (c96 : Nat), w90.cell? ((⟨g88, 0, none⟩ : Addr).add 1) = some (.slice A94 n95 c96) ∧ ∃ (A97 : Option Addr) (n98 : Nat) (c99 : Nat), w90.cell? ((⟨g88, 0, none⟩ : Addr).add 2) = some (.slice A97 n98 c99) ∧ ∃ (n100 : Int), w90.cell? ((⟨g88, 0, none⟩ : Addr).add 3) = some (.int .i64 n100) ∧ ∃ (n101 : Int), w90.cell? ((⟨g88, 0, none⟩ : Addr).add 4) = some (.int .i64 n101) ∧ Cll Try.prog 55 #[(.agg #[(.slice A91 n92 c93), (.slice A94 n95 c96), (.slice A97 n98 c99), (.int .i64 n100), (.int .i64 n101)]), (.int .i64 x1)] w90 fun v102 w103 => (∃ (b104 : Bool), v102 = (.bool b104) ∧ bcase (!(b104 == b63)) (K (.bool false) w103) ((∃ M105 : Nat → Prop, ∃ (A106 : Option Addr) (n107 : Nat) (c108 : Nat), (¬ M105 ((⟨g88, 0, none⟩ : Addr)).block ∧ w103.cell? ((⟨g88, 0, none⟩ : Addr).add 0) = some (.slice A106 n107 c108)) ∧ ∃ (A109 : Option Addr) (n110 : Nat) (c111 : Nat), (¬ M105 ((⟨g88, 0, none⟩ : Addr)).block ∧ w103.cell? ((⟨g88, 0, none⟩ : Addr).add 1) = some (.slice A109 n110 c111)) ∧ ∃ (A112 : Option Addr) (n113 : Nat) (c114 : Nat), (¬ M105 ((⟨g88, 0, none⟩ : Addr)).block ∧ w103.cell? ((⟨g88, 0, none⟩ : Addr).add 2) = some (.slice A112 n113 c114)) ∧ ∃ (n115 : Int), (¬ M105 ((⟨g88, 0, none⟩ : Addr)).block ∧ w103.cell? ((⟨g88, 0, none⟩ : Addr).add 3) = some (.int .i64 n115)) ∧ ∃ (n116 : Int), (¬ M105 ((⟨g88, 0, none⟩ : Addr)).block ∧ w103.cell? ((⟨g88, 0, none⟩ : Addr).add 4) = some (.int .i64 n116)) ∧ ∃ (A117 : Option Addr) (n118 : Nat) (c119 : Nat), (¬ M105 ((⟨g21, 0, none⟩ : Addr)).block ∧ w103.cell? ((⟨g21, 0, none⟩ : Addr).add 0) = some (.slice A117 n118 c119)) ∧ ∃ (A120 : Option Addr) (n121 : Nat) (c122 : Nat), (¬ M105 ((⟨g21, 0, none⟩ : Addr)).block ∧ w103.cell? ((⟨g21, 0, none⟩ : Addr).add 1) = some (.slice A120 n121 c122)) ∧ ∃ (A123 : Option Addr) (n124 : Nat) (c125 : Nat), (¬ M105 ((⟨g21, 0, none⟩ : Addr)).block ∧ w103.cell? ((⟨g21, 0, none⟩ : Addr).add 2) = some (.slice A123 n124 c125)) ∧ ∃ (n126 : Int), (¬ M105 ((⟨g21, 0, none⟩ : Addr)).block ∧ w103.cell? ((⟨g21, 0, none⟩ : Addr).add 3) = some (.int .i64 n126)) ∧ ∃ (n127 : Int), (¬ M105 ((⟨g21, 0, none⟩ : Addr)).block ∧ w103.cell? ((⟨g21, 0, none⟩ : Addr).add 4) = some (.int .i64 n127)) ∧ Cll Try.prog 36 #[(.agg #[(.slice A117 n118 c119), (.slice A120 n121 c122), (.slice A123 n124 c125), (.int .i64 n126), (.int .i64 n127)])] w103.drew fun v128 w129 => (∃ (A130 : Option Addr) (n131 : Nat) (c132 : Nat), True ∧ ∃ (A133 : Option Addr) (n134 : Nat) (c135 : Nat), True ∧ ∃ (A136 : Option Addr) (n137 : Nat) (c138 : Nat), True ∧ ∃ (n139 : Int), True ∧ ∃ (n140 : Int), True ∧ v128 = (.agg #[(.slice A130 n131 c132), (.slice A133 n134 c135), (.slice A136 n137 c138), (.int .i64 n139), (.int .i64 n140)]) ∧ SameBut M105 w103 w129 ∧ Cll Try.prog 37 #[(.agg #[(.slice A106 n107 c108), (.slice A109 n110 c111), (.slice A112 n113 c114), (.int .i64 n115), (.int .i64 n116)]), (.agg #[(.slice A130 n131 c132), (.slice A133 n134 c135), (.slice A136 n137 c138), (.int .i64 n139), (.int .i64 n140)])] w129 fun v141 w142 => (∃ (b143 : Bool), v141 = (.bool b143) ∧ SameBut M105 w103 w142 ∧ bcase (!b143) (K (.bool false) w142) (K (.bool true) w142)))))))))))

def laws_FnExactIsSplitBarrier.ann : Ann := (.seq .l (.seq .l (.seq .l (.seq (.seq .l (.two (.seq .l .l) .l)) (.seq .l (.seq .l (.seq .l (.seq (.seq .l (.two (.seq .l .l) .l)) (.seq (.seq .l (.two (.seq .l .l) .l)) (.seq .l .l))))))))))

theorem laws_FnExactIsSplitBarrier.vc_eq (A0_0 : Option Addr) (n0_0 : Nat) (c0_0 : Nat) (A0_1 : Option Addr) (n0_1 : Nat) (c0_1 : Nat) (A0_2 : Option Addr) (n0_2 : Nat) (c0_2 : Nat) (x0_3 : Int) (x0_4 : Int) (x1 : Int) (w : World) (K : Value → World → Prop) : vcF Try.prog Try.f14 laws_FnExactIsSplitBarrier.ann [(.agg #[(.slice A0_0 n0_0 c0_0), (.slice A0_1 n0_1 c0_1), (.slice A0_2 n0_2 c0_2), (.int .i64 x0_3), (.int .i64 x0_4)]), (.int .i64 x1)] K w = laws_FnExactIsSplitBarrier.vc A0_0 n0_0 c0_0 A0_1 n0_1 c0_1 A0_2 n0_2 c0_2 x0_3 x0_4 x1 w K := by kernel_rfl

theorem laws_FnExactIsSplitBarrier.start {A0_0 : Option Addr} {n0_0 : Nat} {c0_0 : Nat} {A0_1 : Option Addr} {n0_1 : Nat} {c0_1 : Nat} {A0_2 : Option Addr} {n0_2 : Nat} {c0_2 : Nat} {x0_3 : Int} {x0_4 : Int} {x1 : Int} {w : World} {K : Value → World → Prop} (h : laws_FnExactIsSplitBarrier.vc A0_0 n0_0 c0_0 A0_1 n0_1 c0_1 A0_2 n0_2 c0_2 x0_3 x0_4 x1 w K) : Cll Try.prog 14 #[(.agg #[(.slice A0_0 n0_0 c0_0), (.slice A0_1 n0_1 c0_1), (.slice A0_2 n0_2 c0_2), (.int .i64 x0_3), (.int .i64 x0_4)]), (.int .i64 x1)] w K :=
  vcF_sound mixed (fn := Try.f14) (by kernel_rfl) (by kernel_rfl) (an := laws_FnExactIsSplitBarrier.ann) (args := [(.agg #[(.slice A0_0 n0_0 c0_0), (.slice A0_1 n0_1 c0_1), (.slice A0_2 n0_2 c0_2), (.int .i64 x0_3), (.int .i64 x0_4)]), (.int .i64 x1)]) (by rw [laws_FnExactIsSplitBarrier.vc_eq]; exact h)

theorem laws_FnExactIsSplitBarrier.con {s0 : D.Block} {A0_0 : Option Addr} {c0_0 : Nat} {A0_1 : Option Addr} {c0_1 : Nat} {A0_2 : Option Addr} {c0_2 : Nat} {x1 : Int} {r : Bool} {w : World} (hp : M.laws_FnExactIsSplitBarrier_pre s0 x1) (hr : r = M.laws_FnExactIsSplitBarrier s0 x1) (R0_0 : Row el109 w A0_0 s0.Code) (hc0_0 : s0.Code.length ≤ c0_0) (R0_1 : RowW 138 el158 el3 w A0_1 s0.Warps) (hc0_1 : s0.Warps.length ≤ c0_1) (R0_2 : Row el3 w A0_2 s0.Memory) (hc0_2 : s0.Memory.length ≤ c0_2) :
    Cll Try.prog 14 #[(.agg #[(.slice A0_0 s0.Code.length c0_0), (.slice A0_1 s0.Warps.length c0_1), (.slice A0_2 s0.Memory.length c0_2), (.int .i64 s0.Waiting), (.int .i64 s0.Phase)]), (.int .i64 x1)] w (fun v_ w_ => v_ = (.bool r) ∧ Ext w w_) := by
  have H := wp.laws_FnExactIsSplitBarrier.math s0 x1 hp
  have hB := Ext.refl w
  refine laws_FnExactIsSplitBarrier.start ?_
  unfold laws_FnExactIsSplitBarrier.vc
  unfold wp.laws_FnExactIsSplitBarrier at H
  refine newBlk (fun g4_ w21 L4 P4 e22 => ?_)
  have O4 := P4
  have L4 := Nat.le_trans hB.size L4
  have hB := ethen hB e22
  refine ⟨_, _, _, (O4.at 0 rfl rfl), ?_⟩
  refine ⟨_, _, _, (O4.at 1 rfl rfl), ?_⟩
  refine ⟨_, _, _, (O4.at 2 rfl rfl), ?_⟩
  refine ⟨_, (O4.at 3 rfl rfl), ?_⟩
  refine ⟨_, (O4.at 4 rfl rfl), ?_⟩
  obtain ⟨hp25, H⟩ := H
  obtain ⟨r23, hr24⟩ : ∃ r_, r_ = M.laws_szBlock s0 1048576 := ⟨_, rfl⟩
  have H := H r23 hr24
  refine (laws_szBlock.con hp25 hr24 (R0_0.ext hB) hc0_0 (R0_1.ext hB) hc0_1 (R0_2.ext hB) hc0_2).mono ?_
  rintro _ w26 ⟨rfl, e27⟩
  have O4 := O4.ext e27
  have hB := ethen hB e27
  refine ⟨r23, rfl, ?_⟩
  refine bcase_mk (fun hc86 => ?_) (fun hc86 => ?_)
  · have H := (bcase_iff.1 H).1 hc86
    obtain rfl := hr.trans H.symm
    exact ⟨rfl, hB⟩
  · have H := (bcase_iff.1 H).2 hc86
    refine ⟨_, _, _, (O4.at 0 rfl rfl), ?_⟩
    refine ⟨_, _, _, (O4.at 1 rfl rfl), ?_⟩
    refine ⟨_, _, _, (O4.at 2 rfl rfl), ?_⟩
    refine ⟨_, (O4.at 3 rfl rfl), ?_⟩
    refine ⟨_, (O4.at 4 rfl rfl), ?_⟩
    obtain ⟨hp30, H⟩ := H
    obtain ⟨r28, hr29⟩ : ∃ r_, r_ = M.laws_toBlock s0 := ⟨_, rfl⟩
    have H := H r28 hr29
    refine (laws_toBlock.con hp30 hr29 (R0_0.ext hB) hc0_0 (R0_1.ext hB) hc0_1 (R0_2.ext hB) hc0_2).mono ?_
    rintro _ w31 ⟨A33, c34, A35, c36, F39, A37, c38, rfl, P5, P6, P7, N6_7, e32⟩
    have N5_4 := P5.apart_old O4.lt
    have N6_4 := P6.new_disbox O4 (Nat.le_refl _)
    have N7_4 := P7.apart_old O4.lt
    have O4 := O4.ext e32
    have O5 := P5.mono hB.size
    have O6 := P6.mono hB.size
    have O7 := P7.mono hB.size
    have hB := ethen hB e32
    refine ⟨A33, r28.Code.length, c34, trivial, ?_⟩
    refine ⟨A35, r28.Warps.length, c36, trivial, ?_⟩
    refine ⟨A37, r28.Memory.length, c38, trivial, ?_⟩
    refine ⟨r28.Waiting, trivial, ?_⟩
    refine ⟨r28.Phase, trivial, ?_⟩
    refine ⟨rfl, ?_⟩
    obtain ⟨hp42, H⟩ := H
    obtain ⟨r40, hr41⟩ : ∃ r_, r_ = M.spec_IsSplitBarrier r28 x1 := ⟨_, rfl⟩
    have H := H r40 hr41
    refine (spec_IsSplitBarrier.con hp42 hr41 O5.row O5.le O6.row O6.le O7.row O7.le).mono ?_
    rintro _ w43 ⟨rfl, e44⟩
    have O4 := O4.ext e44
    have O5 := O5.ext e44
    have O6 := O6.ext e44
    have O7 := O7.ext e44
    have hB := ethen hB e44
    refine ⟨r40, rfl, ?_⟩
    refine ⟨_, _, _, (O4.at 0 rfl rfl), ?_⟩
    refine ⟨_, _, _, (O4.at 1 rfl rfl), ?_⟩
    refine ⟨_, _, _, (O4.at 2 rfl rfl), ?_⟩
    refine ⟨_, (O4.at 3 rfl rfl), ?_⟩
    refine ⟨_, (O4.at 4 rfl rfl), ?_⟩
    obtain ⟨hp47, H⟩ := H
    obtain ⟨r45, hr46⟩ : ∃ r_, r_ = M.laws_toBlock s0 := ⟨_, rfl⟩
    have H := H r45 hr46
    refine (laws_toBlock.con hp47 hr46 (R0_0.ext hB) hc0_0 (R0_1.ext hB) hc0_1 (R0_2.ext hB) hc0_2).mono ?_
    rintro _ w48 ⟨A50, c51, A52, c53, F56, A54, c55, rfl, P8, P9, P10, N9_10, e49⟩
    have N8_4 := P8.apart_old O4.lt
    have N5_8 := Own.apart2_new O5 P8 (Nat.le_refl _)
    have N6_8 := O6.dis_new P8 (Nat.le_refl _)
    have N7_8 := Own.apart2_new O7 P8 (Nat.le_refl _)
    have N9_4 := P9.new_disbox O4 (Nat.le_refl _)
    have N9_5 := P9.new_dis O5 (Nat.le_refl _)
    have N6_9 := O6.dis_neww P9 (Nat.le_refl _)
    have N9_7 := P9.new_dis O7 (Nat.le_refl _)
    have N10_4 := P10.apart_old O4.lt
    have N5_10 := Own.apart2_new O5 P10 (Nat.le_refl _)
    have N6_10 := O6.dis_new P10 (Nat.le_refl _)
    have N7_10 := Own.apart2_new O7 P10 (Nat.le_refl _)
    have O4 := O4.ext e49
    have O5 := O5.ext e49
    have O6 := O6.ext e49
    have O7 := O7.ext e49
    have O8 := P8.mono hB.size
    have O9 := P9.mono hB.size
    have O10 := P10.mono hB.size
    have hB := ethen hB e49
    refine ⟨A50, r45.Code.length, c51, trivial, ?_⟩
    refine ⟨A52, r45.Warps.length, c53, trivial, ?_⟩
    refine ⟨A54, r45.Memory.length, c55, trivial, ?_⟩
    refine ⟨r45.Waiting, trivial, ?_⟩
    refine ⟨r45.Phase, trivial, ?_⟩
    refine ⟨rfl, ?_⟩
    refine newBlk (fun g11_ w57 L11 P11 e58 => ?_)
    have N4_11 := O4.ne L11
    have N5_11 := O5.apart_new L11
    have N6_11 := O6.dis_newbox L11
    have N7_11 := O7.apart_new L11
    have N8_11 := O8.apart_new L11
    have N9_11 := O9.dis_newbox L11
    have N10_11 := O10.apart_new L11
    have O4 := O4.ext e58
    have O5 := O5.ext e58
    have O6 := O6.ext e58
    have O7 := O7.ext e58
    have O8 := O8.ext e58
    have O9 := O9.ext e58
    have O10 := O10.ext e58
    have O11 := P11
    have L11 := Nat.le_trans hB.size L11
    have hB := ethen hB e58
    refine stBlk O11 (o := 0) (cs' := #[(.slice A50 r45.Code.length c51), (.slice A52 r45.Warps.length c53), (.slice A54 r45.Memory.length c55), (.int .i64 r45.Waiting), (.int .i64 r45.Phase)]) rfl rfl (Nat.le_of_ble_eq_true rfl) rfl (fun w59 P11 e60 => ?_)
    have O4_ := O4.chg e60 N4_11
    have O5_ := O5.chg e60 N5_11
    have O6_ := O6.chg e60 N6_11
    have O7_ := O7.chg e60 N7_11
    have O8_ := O8.chg e60 N8_11
    have O9_ := O9.chg e60 N9_11
    have O10_ := O10.chg e60 N10_11
    have O4 := O4_
    have O5 := O5_
    have O6 := O6_
    have O7 := O7_
    have O8 := O8_
    have O9 := O9_
    have O10 := O10_
    have hB := echg hB e60 L11
    have O11 := P11
    refine ⟨_, _, _, (O11.at 0 rfl rfl), ?_⟩
    refine ⟨_, _, _, (O11.at 1 rfl rfl), ?_⟩
    refine ⟨_, _, _, (O11.at 2 rfl rfl), ?_⟩
    refine ⟨_, (O11.at 3 rfl rfl), ?_⟩
    refine ⟨_, (O11.at 4 rfl rfl), ?_⟩
    obtain ⟨hp63, H⟩ := H
    obtain ⟨r61, hr62⟩ : ∃ r_, r_ = M.impl_IsSplitBarrier r45 x1 := ⟨_, rfl⟩
    have H := H r61 hr62
    refine (impl_IsSplitBarrier.con hp63 hr62 O8.row O8.le O9.row O9.le O10.row O10.le).mono ?_
    rintro _ w64 ⟨rfl, e65⟩
    have O4 := O4.ext e65
    have O5 := O5.ext e65
    have O6 := O6.ext e65
    have O7 := O7.ext e65
    have O8 := O8.ext e65
    have O9 := O9.ext e65
    have O10 := O10.ext e65
    have O11 := O11.ext e65
    have hB := ethen hB e65
    refine ⟨r61, rfl, ?_⟩
    refine bcase_mk (fun hc85 => ?_) (fun hc85 => ?_)
    · have H := (bcase_iff.1 H).1 hc85
      obtain rfl := hr.trans H.symm
      exact ⟨rfl, hB⟩
    · have H := (bcase_iff.1 H).2 hc85
      refine ⟨(fun _ => False), ?_⟩
      refine ⟨_, _, _, ⟨(fun h_ => h_), (O11.at 0 rfl rfl)⟩, ?_⟩
      refine ⟨_, _, _, ⟨(fun h_ => h_), (O11.at 1 rfl rfl)⟩, ?_⟩
      refine ⟨_, _, _, ⟨(fun h_ => h_), (O11.at 2 rfl rfl)⟩, ?_⟩
      refine ⟨_, ⟨(fun h_ => h_), (O11.at 3 rfl rfl)⟩, ?_⟩
      refine ⟨_, ⟨(fun h_ => h_), (O11.at 4 rfl rfl)⟩, ?_⟩
      refine ⟨_, _, _, ⟨(fun h_ => h_), (O4.at 0 rfl rfl)⟩, ?_⟩
      refine ⟨_, _, _, ⟨(fun h_ => h_), (O4.at 1 rfl rfl)⟩, ?_⟩
      refine ⟨_, _, _, ⟨(fun h_ => h_), (O4.at 2 rfl rfl)⟩, ?_⟩
      refine ⟨_, ⟨(fun h_ => h_), (O4.at 3 rfl rfl)⟩, ?_⟩
      refine ⟨_, ⟨(fun h_ => h_), (O4.at 4 rfl rfl)⟩, ?_⟩
      have hS66 := Chg.refl (fun _ => False) w64
      have O4 := O4.ext (Ext.drew _)
      have O5 := O5.ext (Ext.drew _)
      have O6 := O6.ext (Ext.drew _)
      have O7 := O7.ext (Ext.drew _)
      have O8 := O8.ext (Ext.drew _)
      have O9 := O9.ext (Ext.drew _)
      have O10 := O10.ext (Ext.drew _)
      have O11 := O11.ext (Ext.drew _)
      have hB := ethen hB (Ext.drew _)
      have hS66 := hS66.then (Ext.drew _)
      obtain ⟨hp69, H⟩ := H
      obtain ⟨r67, hr68⟩ : ∃ r_, r_ = M.laws_toBlock s0 := ⟨_, rfl⟩
      have H := H r67 hr68
      refine (laws_toBlock.con hp69 hr68 (R0_0.ext hB) hc0_0 (R0_1.ext hB) hc0_1 (R0_2.ext hB) hc0_2).mono ?_
      rintro _ w70 ⟨A72, c73, A74, c75, F78, A76, c77, rfl, P12, P13, P14, N13_14, e71⟩
      have N12_4 := P12.apart_old O4.lt
      have N5_12 := Own.apart2_new O5 P12 (Nat.le_refl _)
      have N6_12 := O6.dis_new P12 (Nat.le_refl _)
      have N7_12 := Own.apart2_new O7 P12 (Nat.le_refl _)
      have N8_12 := Own.apart2_new O8 P12 (Nat.le_refl _)
      have N9_12 := O9.dis_new P12 (Nat.le_refl _)
      have N10_12 := Own.apart2_new O10 P12 (Nat.le_refl _)
      have N12_11 := P12.apart_old O11.lt
      have N13_4 := P13.new_disbox O4 (Nat.le_refl _)
      have N13_5 := P13.new_dis O5 (Nat.le_refl _)
      have N6_13 := O6.dis_neww P13 (Nat.le_refl _)
      have N13_7 := P13.new_dis O7 (Nat.le_refl _)
      have N13_8 := P13.new_dis O8 (Nat.le_refl _)
      have N9_13 := O9.dis_neww P13 (Nat.le_refl _)
      have N13_10 := P13.new_dis O10 (Nat.le_refl _)
      have N13_11 := P13.new_disbox O11 (Nat.le_refl _)
      have N14_4 := P14.apart_old O4.lt
      have N5_14 := Own.apart2_new O5 P14 (Nat.le_refl _)
      have N6_14 := O6.dis_new P14 (Nat.le_refl _)
      have N7_14 := Own.apart2_new O7 P14 (Nat.le_refl _)
      have N8_14 := Own.apart2_new O8 P14 (Nat.le_refl _)
      have N9_14 := O9.dis_new P14 (Nat.le_refl _)
      have N10_14 := Own.apart2_new O10 P14 (Nat.le_refl _)
      have N14_11 := P14.apart_old O11.lt
      have O4 := O4.ext e71
      have O5 := O5.ext e71
      have O6 := O6.ext e71
      have O7 := O7.ext e71
      have O8 := O8.ext e71
      have O9 := O9.ext e71
      have O10 := O10.ext e71
      have O11 := O11.ext e71
      have LB12 := (P12.mono hS66.size).low
      have LB13 := (P13.mono hS66.size).lowW
      have LB14 := (P14.mono hS66.size).low
      have O12 := P12.mono hB.size
      have O13 := P13.mono hB.size
      have O14 := P14.mono hB.size
      have hB := ethen hB e71
      have hS66 := hS66.then e71
      refine ⟨A72, r67.Code.length, c73, trivial, ?_⟩
      refine ⟨A74, r67.Warps.length, c75, trivial, ?_⟩
      refine ⟨A76, r67.Memory.length, c77, trivial, ?_⟩
      refine ⟨r67.Waiting, trivial, ?_⟩
      refine ⟨r67.Phase, trivial, ?_⟩
      refine ⟨rfl, ?_⟩
      refine ⟨sameBut_chg hS66, ?_⟩
      obtain ⟨hp81, H⟩ := H
      obtain ⟨r79, hr80⟩ : ∃ r_, r_ = M.laws_eqBlock r45 r67 := ⟨_, rfl⟩
      have H := H r79 hr80
      refine (laws_eqBlock.con hp81 hr80 O8.row O8.le O9.row O9.le O10.row O10.le O12.row O12.le O13.row O13.le O14.row O14.le).mono ?_
      rintro _ w82 ⟨rfl, e83⟩
      have O4 := O4.ext e83
      have O5 := O5.ext e83
      have O6 := O6.ext e83
      have O7 := O7.ext e83
      have O8 := O8.ext e83
      have O9 := O9.ext e83
      have O10 := O10.ext e83
      have O11 := O11.ext e83
      have O12 := O12.ext e83
      have O13 := O13.ext e83
      have O14 := O14.ext e83
      have hB := ethen hB e83
      have hS66 := hS66.then e83
      refine ⟨r79, rfl, ?_⟩
      refine ⟨sameBut_chg hS66, ?_⟩
      refine bcase_mk (fun hc84 => ?_) (fun hc84 => ?_)
      · have H := (bcase_iff.1 H).1 hc84
        obtain rfl := hr.trans H.symm
        exact ⟨rfl, hB⟩
      · have H := (bcase_iff.1 H).2 hc84
        obtain rfl := hr.trans H.symm
        exact ⟨rfl, hB⟩

end Go.V
