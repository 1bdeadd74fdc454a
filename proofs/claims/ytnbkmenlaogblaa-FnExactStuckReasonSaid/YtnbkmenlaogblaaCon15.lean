import Derived.Test.YtnbkmenlaogblaaMath15
import Derived.Test.YtnbkmenlaogblaaSeat
import Derived.Test.YtnbkmenlaogblaaCon14
namespace Go.V
open Go.Proofs
set_option linter.unusedVariables false
set_option linter.unusedSimpArgs false
set_option maxRecDepth 100000

def spec_l29Ended.vc (A0_0 : Option Addr) (n0_0 : Nat) (c0_0 : Nat) (A0_1 : Option Addr) (n0_1 : Nat) (c0_1 : Nat) (A0_2 : Option Addr) (n0_2 : Nat) (c0_2 : Nat) (x0_3 : Int) (x0_4 : Int) (w : World) (K : Value → World → Prop) : Prop :=
  newK w (.cells #[(.slice A0_0 n0_0 c0_0), (.slice A0_1 n0_1 c0_1), (.slice A0_2 n0_2 c0_2), (.int .i64 x0_3), (.int .i64 x0_4)] 32) fun g21 w22 => LoopT (σ := Int × Unit) (fun z23 w24 next25 => ∃ (A26 : Option Addr) (n27 : Nat) (c28 : Nat), w24.cell? (((⟨g21, 0, none⟩ : Addr).add 1).add 0) = some (.slice A26 n27 c28) ∧ bcase (decide (z23.1 < ((n27 : Nat) : Int))) (∃ (A29 : Option Addr) (n30 : Nat) (c31 : Nat), w24.cell? (((⟨g21, 0, none⟩ : Addr).add 1).add 0) = some (.slice A29 n30 c31) ∧ ((0 : Int) ≤ z23.1 ∧ z23.1 < ((n30 : Nat) : Int) ∧ ∃ a32 : Addr, A29 = some a32 ∧ ∃ (A33 : Option Addr) (n34 : Nat) (c35 : Nat), w24.cell? (((a32.add ((z23.1.toNat) * 3)).add 1).add 0) = some (.slice A33 n34 c35) ∧ bcase (decide (((n34 : Nat) : Int) > 0)) (K (.bool false) w24) (next25 ((IntKind.wrap .i64 (z23.1 + 1)), ()) w24))) (K (.bool true) w24)) (0, ()) w22

def spec_l29Ended.ann : Ann := (.seq .l (.seq (.seq .l (.one (.loop [(3, .int .i64)] (.seq (.seq .l (.two .l .l)) (.seq (.one (.seq .l (.two (.seq .l .l) .l))) .l))))) (.seq .l .l)))

theorem spec_l29Ended.vc_eq (A0_0 : Option Addr) (n0_0 : Nat) (c0_0 : Nat) (A0_1 : Option Addr) (n0_1 : Nat) (c0_1 : Nat) (A0_2 : Option Addr) (n0_2 : Nat) (c0_2 : Nat) (x0_3 : Int) (x0_4 : Int) (w : World) (K : Value → World → Prop) : vcF Try.prog Try.f58 spec_l29Ended.ann [(.agg #[(.slice A0_0 n0_0 c0_0), (.slice A0_1 n0_1 c0_1), (.slice A0_2 n0_2 c0_2), (.int .i64 x0_3), (.int .i64 x0_4)])] K w = spec_l29Ended.vc A0_0 n0_0 c0_0 A0_1 n0_1 c0_1 A0_2 n0_2 c0_2 x0_3 x0_4 w K := by kernel_rfl

theorem spec_l29Ended.start {A0_0 : Option Addr} {n0_0 : Nat} {c0_0 : Nat} {A0_1 : Option Addr} {n0_1 : Nat} {c0_1 : Nat} {A0_2 : Option Addr} {n0_2 : Nat} {c0_2 : Nat} {x0_3 : Int} {x0_4 : Int} {w : World} {K : Value → World → Prop} (h : spec_l29Ended.vc A0_0 n0_0 c0_0 A0_1 n0_1 c0_1 A0_2 n0_2 c0_2 x0_3 x0_4 w K) : Cll Try.prog 58 #[(.agg #[(.slice A0_0 n0_0 c0_0), (.slice A0_1 n0_1 c0_1), (.slice A0_2 n0_2 c0_2), (.int .i64 x0_3), (.int .i64 x0_4)])] w K :=
  vcF_sound mixed (fn := Try.f58) (by kernel_rfl) (by kernel_rfl) (an := spec_l29Ended.ann) (args := [(.agg #[(.slice A0_0 n0_0 c0_0), (.slice A0_1 n0_1 c0_1), (.slice A0_2 n0_2 c0_2), (.int .i64 x0_3), (.int .i64 x0_4)])]) (by rw [spec_l29Ended.vc_eq]; exact h)

theorem spec_l29Ended.con {s0 : D.Block} {A0_0 : Option Addr} {c0_0 : Nat} {A0_1 : Option Addr} {c0_1 : Nat} {A0_2 : Option Addr} {c0_2 : Nat} {r : Bool} {w : World} (hp : M.spec_l29Ended_pre s0) (hr : r = M.spec_l29Ended s0) (R0_0 : Row el76 w A0_0 s0.Code) (hc0_0 : s0.Code.length ≤ c0_0) (R0_1 : RowW 102 el132 el3 w A0_1 s0.Warps) (hc0_1 : s0.Warps.length ≤ c0_1) (R0_2 : Row el3 w A0_2 s0.Memory) (hc0_2 : s0.Memory.length ≤ c0_2) :
    Cll Try.prog 58 #[(.agg #[(.slice A0_0 s0.Code.length c0_0), (.slice A0_1 s0.Warps.length c0_1), (.slice A0_2 s0.Memory.length c0_2), (.int .i64 s0.Waiting), (.int .i64 s0.Phase)])] w (fun v_ w_ => v_ = (.bool r) ∧ Ext w w_) := by
  have H := wp.spec_l29Ended.math s0 hp
  have hB := Ext.refl w
  refine spec_l29Ended.start ?_
  unfold spec_l29Ended.vc
  unfold wp.spec_l29Ended at H
  refine newBlk (fun g4_ w21 L4 P4 e22 => ?_)
  have O4 := P4
  have L4 := Nat.le_trans hB.size L4
  have hB := ethen hB e22
  obtain ⟨J25, ⟨m52, hJ51⟩, hS26⟩ := H
  refine ⟨fun m_ z_ w_ => ∃ (i23 : Int), z_ = (i23, ()) ∧ J25 m_ (i23, ()) ∧ Ext w w_ ∧ Blk w_ g4_ 32 #[(.slice A0_0 s0.Code.length c0_0), (.slice A0_1 s0.Warps.length c0_1), (.slice A0_2 s0.Memory.length c0_2), (.int .i64 s0.Waiting), (.int .i64 s0.Phase)], ⟨m52, 0, rfl, hJ51, hB, O4⟩, ?_⟩
  rintro m24 _ w28 ⟨i23, rfl, hJ53, hB, O4⟩
  have H := hS26 m24 _ hJ53
  clear hS26 hJ53
  dsimp only at H ⊢
  refine ⟨_, _, _, (O4.at 1 rfl rfl), ?_⟩
  refine bcase_mk (fun hc49 => ?_) (fun hc49 => ?_)
  · have H := (bcase_iff.1 H).1 hc49
    refine ⟨_, _, _, (O4.at 1 rfl rfl), ?_⟩
    obtain ⟨⟨h0_32, h1_33⟩, H⟩ := H
    obtain ⟨a30, ha31, A37, c38, A39, c40, f34, f35, f36, R41, hle43, R42, hle44⟩ := RowW.at R0_1 h0_32 h1_33
    refine ⟨h0_32, h1_33, a30, ha31, ?_⟩
    refine ⟨_, _, _, (Ext.cell hB f35), ?_⟩
    refine bcase_mk (fun hc48 => ?_) (fun hc48 => ?_)
    · have H := (bcase_iff.1 H).1 hc48
      obtain rfl := hr.trans H.symm
      exact ⟨rfl, hB⟩
    · have H := (bcase_iff.1 H).2 hc48
      obtain ⟨m45, hm46, hJ47⟩ := H
      exact ⟨m45, hm46, (IntKind.wrap .i64 (i23 + 1)), rfl, hJ47, hB, O4⟩
  · have H := (bcase_iff.1 H).2 hc49
    obtain rfl := hr.trans H.symm
    exact ⟨rfl, hB⟩

def slices_IndexFunc_impl_Warp_impl_Warp.vc (A0 : Option Addr) (n0 : Nat) (c0 : Nat) (f1 : Nat) (cap1 : Array Value) (w : World) (K : Value → World → Prop) : Prop :=
  LoopT (σ := Int × Unit) (fun z21 w22 next23 => bcase (decide (z21.1 < ((n0 : Nat) : Int))) (((0 : Int) ≤ z21.1 ∧ z21.1 < ((n0 : Nat) : Int) ∧ ∃ a24 : Addr, A0 = some a24 ∧ ∃ (n25 : Int), w22.cell? ((a24.add ((z21.1.toNat) * 3)).add 0) = some (.int .i64 n25) ∧ ∃ (A26 : Option Addr) (n27 : Nat) (c28 : Nat), w22.cell? ((a24.add ((z21.1.toNat) * 3)).add 1) = some (.slice A26 n27 c28) ∧ ∃ (A29 : Option Addr) (n30 : Nat) (c31 : Nat), w22.cell? ((a24.add ((z21.1.toNat) * 3)).add 2) = some (.slice A29 n30 c31) ∧ Cll Try.prog f1 (#[(.agg #[(.int .i64 n25), (.slice A26 n27 c28), (.slice A29 n30 c31)])] ++ cap1) w22 fun v32 w33 => (∃ (b34 : Bool), v32 = (.bool b34) ∧ bcase b34 (K (.int .i64 z21.1) w33) (next23 ((IntKind.wrap .i64 (z21.1 + 1)), ()) w33)))) (K (.int .i64 (-1)) w22)) (0, ()) w

def slices_IndexFunc_impl_Warp_impl_Warp.ann : Ann := (.seq .l (.seq (.seq .l (.one (.loop [(8, .int .i64)] (.seq .l (.seq (.two .l .l) (.seq (.one (.seq .l (.seq .l (.two (.seq .l .l) .l)))) .l)))))) (.seq .l .l)))

theorem slices_IndexFunc_impl_Warp_impl_Warp.vc_eq (A0 : Option Addr) (n0 : Nat) (c0 : Nat) (f1 : Nat) (cap1 : Array Value) (w : World) (K : Value → World → Prop) : vcF Try.prog Try.f159 slices_IndexFunc_impl_Warp_impl_Warp.ann [(.slice A0 n0 c0), (.func (.func f1) #[] cap1)] K w = slices_IndexFunc_impl_Warp_impl_Warp.vc A0 n0 c0 f1 cap1 w K := by kernel_rfl

theorem slices_IndexFunc_impl_Warp_impl_Warp.start {A0 : Option Addr} {n0 : Nat} {c0 : Nat} {f1 : Nat} {cap1 : Array Value} {w : World} {K : Value → World → Prop} (h : slices_IndexFunc_impl_Warp_impl_Warp.vc A0 n0 c0 f1 cap1 w K) : Cll Try.prog 159 #[(.slice A0 n0 c0), (.func (.func f1) #[] cap1)] w K :=
  vcF_sound mixed (fn := Try.f159) (by kernel_rfl) (by kernel_rfl) (an := slices_IndexFunc_impl_Warp_impl_Warp.ann) (args := [(.slice A0 n0 c0), (.func (.func f1) #[] cap1)]) (by rw [slices_IndexFunc_impl_Warp_impl_Warp.vc_eq]; exact h)

theorem slices_IndexFunc_impl_Warp_impl_Warp.con {xs0 : List D.Warp} {A0 : Option Addr} {c0 : Nat} {f1 : Nat} {cap1 : Array Value} {g1 : D.Warp → Bool} {D1 : D.Warp → Prop} {r : Int} {w : World} (hp : M.slices_IndexFunc_impl_Warp_impl_Warp_pre xs0 g1 D1) (hr : r = M.slices_IndexFunc_impl_Warp_impl_Warp xs0 g1) (R0 : RowW 102 el132 el3 w A0 xs0) (hc0 : xs0.length ≤ c0) (F1 : ∀ (z0_ : D.Warp) (Az0_1 : Option Addr) (cz0_1 : Nat) (Az0_2 : Option Addr) (cz0_2 : Nat), D1 z0_ → ∀ w_ : World, Ext w w_ → Row el132 w_ Az0_1 z0_.Frames → z0_.Frames.length ≤ cz0_1 → Row el3 w_ Az0_2 z0_.Regs → z0_.Regs.length ≤ cz0_2 → Cll Try.prog f1 (#[(.agg #[(.int .i64 z0_.Number), (.slice Az0_1 z0_.Frames.length cz0_1), (.slice Az0_2 z0_.Regs.length cz0_2)])] ++ cap1) w_ (fun v_ w1_ => v_ = (.bool (g1 z0_)) ∧ Ext w_ w1_)) :
    Cll Try.prog 159 #[(.slice A0 xs0.length c0), (.func (.func f1) #[] cap1)] w (fun v_ w_ => v_ = (.int .i64 r) ∧ Ext w w_) := by
  have H := wp.slices_IndexFunc_impl_Warp_impl_Warp.math xs0 g1 D1 hp
  have hB := Ext.refl w
  refine slices_IndexFunc_impl_Warp_impl_Warp.start ?_
  unfold slices_IndexFunc_impl_Warp_impl_Warp.vc
  unfold wp.slices_IndexFunc_impl_Warp_impl_Warp at H
  obtain ⟨J23, ⟨m55, hJ54⟩, hS24⟩ := H
  refine ⟨fun m_ z_ w_ => ∃ (i21 : Int), z_ = (i21, ()) ∧ J23 m_ (i21, ()) ∧ Ext w w_, ⟨m55, 0, rfl, hJ54, hB⟩, ?_⟩
  rintro m22 _ w26 ⟨i21, rfl, hJ56, hB⟩
  have H := hS24 m22 _ hJ56
  clear hS24 hJ56
  dsimp only at H ⊢
  refine bcase_mk (fun hc52 => ?_) (fun hc52 => ?_)
  · have H := (bcase_iff.1 H).1 hc52
    obtain ⟨⟨h0_30, h1_31⟩, H⟩ := H
    obtain ⟨a28, ha29, A35, c36, A37, c38, f32, f33, f34, R39, hle41, R40, hle42⟩ := RowW.at R0 h0_30 h1_31
    refine ⟨h0_30, h1_31, a28, ha29, ?_⟩
    refine ⟨_, (Ext.cell hB f32), ?_⟩
    refine ⟨_, _, _, (Ext.cell hB f33), ?_⟩
    refine ⟨_, _, _, (Ext.cell hB f34), ?_⟩
    obtain ⟨hd45, H⟩ := H
    obtain ⟨r43, hr44⟩ : ∃ r_, r_ = g1 (rd xs0 i21) := ⟨_, rfl⟩
    have H := H r43 hr44
    refine (F1 (rd xs0 i21) _ _ _ _ hd45 _ hB (R39.ext hB) hle41 (R40.ext hB) hle42).mono ?_
    rintro _ w46 ⟨rfl, e47⟩
    rw [← hr44]
    have hB := ethen hB e47
    refine ⟨r43, rfl, ?_⟩
    refine bcase_mk (fun hc51 => ?_) (fun hc51 => ?_)
    · have H := (bcase_iff.1 H).1 hc51
      obtain rfl := hr.trans H.symm
      exact ⟨rfl, hB⟩
    · have H := (bcase_iff.1 H).2 hc51
      obtain ⟨m48, hm49, hJ50⟩ := H
      exact ⟨m48, hm49, (IntKind.wrap .i64 (i21 + 1)), rfl, hJ50, hB⟩
  · have H := (bcase_iff.1 H).2 hc52
    obtain rfl := hr.trans H.symm
    exact ⟨rfl, hB⟩

def slices_ContainsFunc_impl_Warp_impl_Warp.vc (A0 : Option Addr) (n0 : Nat) (c0 : Nat) (f1 : Nat) (cap1 : Array Value) (w : World) (K : Value → World → Prop) : Prop :=
  Cll Try.prog 159 #[(.slice A0 n0 c0), (.func (.func f1) #[] cap1)] w fun v21 w22 => (∃ (n23 : Int), v21 = (.int .i64 n23) ∧ K (.bool (decide (n23 ≥ 0))) w22)

def slices_ContainsFunc_impl_Warp_impl_Warp.ann : Ann := (.seq .l (.seq .l .l))

theorem slices_ContainsFunc_impl_Warp_impl_Warp.vc_eq (A0 : Option Addr) (n0 : Nat) (c0 : Nat) (f1 : Nat) (cap1 : Array Value) (w : World) (K : Value → World → Prop) : vcF Try.prog Try.f115 slices_ContainsFunc_impl_Warp_impl_Warp.ann [(.slice A0 n0 c0), (.func (.func f1) #[] cap1)] K w = slices_ContainsFunc_impl_Warp_impl_Warp.vc A0 n0 c0 f1 cap1 w K := by kernel_rfl

theorem slices_ContainsFunc_impl_Warp_impl_Warp.start {A0 : Option Addr} {n0 : Nat} {c0 : Nat} {f1 : Nat} {cap1 : Array Value} {w : World} {K : Value → World → Prop} (h : slices_ContainsFunc_impl_Warp_impl_Warp.vc A0 n0 c0 f1 cap1 w K) : Cll Try.prog 115 #[(.slice A0 n0 c0), (.func (.func f1) #[] cap1)] w K :=
  vcF_sound mixed (fn := Try.f115) (by kernel_rfl) (by kernel_rfl) (an := slices_ContainsFunc_impl_Warp_impl_Warp.ann) (args := [(.slice A0 n0 c0), (.func (.func f1) #[] cap1)]) (by rw [slices_ContainsFunc_impl_Warp_impl_Warp.vc_eq]; exact h)

theorem slices_ContainsFunc_impl_Warp_impl_Warp.con {xs0 : List D.Warp} {A0 : Option Addr} {c0 : Nat} {f1 : Nat} {cap1 : Array Value} {g1 : D.Warp → Bool} {D1 : D.Warp → Prop} {r : Bool} {w : World} (hp : M.slices_ContainsFunc_impl_Warp_impl_Warp_pre xs0 g1 D1) (hr : r = M.slices_ContainsFunc_impl_Warp_impl_Warp xs0 g1) (R0 : RowW 102 el132 el3 w A0 xs0) (hc0 : xs0.length ≤ c0) (F1 : ∀ (z0_ : D.Warp) (Az0_1 : Option Addr) (cz0_1 : Nat) (Az0_2 : Option Addr) (cz0_2 : Nat), D1 z0_ → ∀ w_ : World, Ext w w_ → Row el132 w_ Az0_1 z0_.Frames → z0_.Frames.length ≤ cz0_1 → Row el3 w_ Az0_2 z0_.Regs → z0_.Regs.length ≤ cz0_2 → Cll Try.prog f1 (#[(.agg #[(.int .i64 z0_.Number), (.slice Az0_1 z0_.Frames.length cz0_1), (.slice Az0_2 z0_.Regs.length cz0_2)])] ++ cap1) w_ (fun v_ w1_ => v_ = (.bool (g1 z0_)) ∧ Ext w_ w1_)) :
    Cll Try.prog 115 #[(.slice A0 xs0.length c0), (.func (.func f1) #[] cap1)] w (fun v_ w_ => v_ = (.bool r) ∧ Ext w w_) := by
  have H := wp.slices_ContainsFunc_impl_Warp_impl_Warp.math xs0 g1 D1 hp
  have hB := Ext.refl w
  refine slices_ContainsFunc_impl_Warp_impl_Warp.start ?_
  unfold slices_ContainsFunc_impl_Warp_impl_Warp.vc
  unfold wp.slices_ContainsFunc_impl_Warp_impl_Warp at H
  obtain ⟨hp23, H⟩ := H
  obtain ⟨r21, hr22⟩ : ∃ r_, r_ = M.slices_IndexFunc_impl_Warp_impl_Warp xs0 g1 := ⟨_, rfl⟩
  have H := H r21 hr22
  refine (slices_IndexFunc_impl_Warp_impl_Warp.con hp23 hr22 (R0.ext hB) hc0 (fun z0_ Az0_1 cz0_1 Az0_2 cz0_2 h_ w_ e_ => F1 z0_ Az0_1 cz0_1 Az0_2 cz0_2 h_ w_ (ethen hB e_))).mono ?_
  rintro _ w24 ⟨rfl, e25⟩
  have hB := ethen hB e25
  refine ⟨r21, rfl, ?_⟩
  obtain rfl := hr.trans H.symm
  exact ⟨rfl, hB⟩

def impl_Block_ended_1.vc (x0_0 : Int) (A0_1 : Option Addr) (n0_1 : Nat) (c0_1 : Nat) (A0_2 : Option Addr) (n0_2 : Nat) (c0_2 : Nat) (w : World) (K : Value → World → Prop) : Prop :=
  newK w (.cells #[(.int .i64 x0_0), (.slice A0_1 n0_1 c0_1), (.slice A0_2 n0_2 c0_2)] 102) fun g21 w22 => ∃ (A23 : Option Addr) (n24 : Nat) (c25 : Nat), w22.cell? (((⟨g21, 0, none⟩ : Addr).add 1).add 0) = some (.slice A23 n24 c25) ∧ K (.bool (decide (((n24 : Nat) : Int) > 0))) w22

def impl_Block_ended_1.ann : Ann := (.seq .l (.seq .l .l))

theorem impl_Block_ended_1.vc_eq (x0_0 : Int) (A0_1 : Option Addr) (n0_1 : Nat) (c0_1 : Nat) (A0_2 : Option Addr) (n0_2 : Nat) (c0_2 : Nat) (w : World) (K : Value → World → Prop) : vcF Try.prog Try.f116 impl_Block_ended_1.ann [(.agg #[(.int .i64 x0_0), (.slice A0_1 n0_1 c0_1), (.slice A0_2 n0_2 c0_2)])] K w = impl_Block_ended_1.vc x0_0 A0_1 n0_1 c0_1 A0_2 n0_2 c0_2 w K := by kernel_rfl

theorem impl_Block_ended_1.start {x0_0 : Int} {A0_1 : Option Addr} {n0_1 : Nat} {c0_1 : Nat} {A0_2 : Option Addr} {n0_2 : Nat} {c0_2 : Nat} {w : World} {K : Value → World → Prop} (h : impl_Block_ended_1.vc x0_0 A0_1 n0_1 c0_1 A0_2 n0_2 c0_2 w K) : Cll Try.prog 116 #[(.agg #[(.int .i64 x0_0), (.slice A0_1 n0_1 c0_1), (.slice A0_2 n0_2 c0_2)])] w K :=
  vcF_sound mixed (fn := Try.f116) (by kernel_rfl) (by kernel_rfl) (an := impl_Block_ended_1.ann) (args := [(.agg #[(.int .i64 x0_0), (.slice A0_1 n0_1 c0_1), (.slice A0_2 n0_2 c0_2)])]) (by rw [impl_Block_ended_1.vc_eq]; exact h)

theorem impl_Block_ended_1.con {s0 : D.Warp} {A0_1 : Option Addr} {c0_1 : Nat} {A0_2 : Option Addr} {c0_2 : Nat} {r : Bool} {w : World} (hp : M.impl_Block_ended_1_pre s0) (hr : r = M.impl_Block_ended_1 s0) (R0_1 : Row el132 w A0_1 s0.Frames) (hc0_1 : s0.Frames.length ≤ c0_1) (R0_2 : Row el3 w A0_2 s0.Regs) (hc0_2 : s0.Regs.length ≤ c0_2) :
    Cll Try.prog 116 #[(.agg #[(.int .i64 s0.Number), (.slice A0_1 s0.Frames.length c0_1), (.slice A0_2 s0.Regs.length c0_2)])] w (fun v_ w_ => v_ = (.bool r) ∧ Ext w w_) := by
  have H := wp.impl_Block_ended_1.math s0 hp
  have hB := Ext.refl w
  refine impl_Block_ended_1.start ?_
  unfold impl_Block_ended_1.vc
  unfold wp.impl_Block_ended_1 at H
  refine newBlk (fun g3_ w21 L3 P3 e22 => ?_)
  have O3 := P3
  have L3 := Nat.le_trans hB.size L3
  have hB := ethen hB e22
  refine ⟨_, _, _, (O3.at 1 rfl rfl), ?_⟩
  obtain rfl := hr.trans H.symm
  exact ⟨rfl, hB⟩

def impl_Block_ended.vc (A0_0 : Option Addr) (n0_0 : Nat) (c0_0 : Nat) (A0_1 : Option Addr) (n0_1 : Nat) (c0_1 : Nat) (A0_2 : Option Addr) (n0_2 : Nat) (c0_2 : Nat) (x0_3 : Int) (x0_4 : Int) (w : World) (K : Value → World → Prop) : Prop :=
  newK w (.cells #[(.slice A0_0 n0_0 c0_0), (.slice A0_1 n0_1 c0_1), (.slice A0_2 n0_2 c0_2), (.int .i64 x0_3), (.int .i64 x0_4)] 32) fun g21 w22 => ∃ (A23 : Option Addr) (n24 : Nat) (c25 : Nat), w22.cell? (((⟨g21, 0, none⟩ : Addr).add 1).add 0) = some (.slice A23 n24 c25) ∧ Cll Try.prog 115 #[(.slice A23 n24 c25), (.func (.func 116) #[] #[])] w22 fun v26 w27 => (∃ (b28 : Bool), v26 = (.bool b28) ∧ K (.bool (!b28)) w27)

def impl_Block_ended.ann : Ann := (.seq .l (.seq .l .l))

theorem impl_Block_ended.vc_eq (A0_0 : Option Addr) (n0_0 : Nat) (c0_0 : Nat) (A0_1 : Option Addr) (n0_1 : Nat) (c0_1 : Nat) (A0_2 : Option Addr) (n0_2 : Nat) (c0_2 : Nat) (x0_3 : Int) (x0_4 : Int) (w : World) (K : Value → World → Prop) : vcF Try.prog Try.f59 impl_Block_ended.ann [(.agg #[(.slice A0_0 n0_0 c0_0), (.slice A0_1 n0_1 c0_1), (.slice A0_2 n0_2 c0_2), (.int .i64 x0_3), (.int .i64 x0_4)])] K w = impl_Block_ended.vc A0_0 n0_0 c0_0 A0_1 n0_1 c0_1 A0_2 n0_2 c0_2 x0_3 x0_4 w K := by kernel_rfl

theorem impl_Block_ended.start {A0_0 : Option Addr} {n0_0 : Nat} {c0_0 : Nat} {A0_1 : Option Addr} {n0_1 : Nat} {c0_1 : Nat} {A0_2 : Option Addr} {n0_2 : Nat} {c0_2 : Nat} {x0_3 : Int} {x0_4 : Int} {w : World} {K : Value → World → Prop} (h : impl_Block_ended.vc A0_0 n0_0 c0_0 A0_1 n0_1 c0_1 A0_2 n0_2 c0_2 x0_3 x0_4 w K) : Cll Try.prog 59 #[(.agg #[(.slice A0_0 n0_0 c0_0), (.slice A0_1 n0_1 c0_1), (.slice A0_2 n0_2 c0_2), (.int .i64 x0_3), (.int .i64 x0_4)])] w K :=
  vcF_sound mixed (fn := Try.f59) (by kernel_rfl) (by kernel_rfl) (an := impl_Block_ended.ann) (args := [(.agg #[(.slice A0_0 n0_0 c0_0), (.slice A0_1 n0_1 c0_1), (.slice A0_2 n0_2 c0_2), (.int .i64 x0_3), (.int .i64 x0_4)])]) (by rw [impl_Block_ended.vc_eq]; exact h)

theorem impl_Block_ended.con {s0 : D.Block} {A0_0 : Option Addr} {c0_0 : Nat} {A0_1 : Option Addr} {c0_1 : Nat} {A0_2 : Option Addr} {c0_2 : Nat} {r : Bool} {w : World} (hp : M.impl_Block_ended_pre s0) (hr : r = M.impl_Block_ended s0) (R0_0 : Row el76 w A0_0 s0.Code) (hc0_0 : s0.Code.length ≤ c0_0) (R0_1 : RowW 102 el132 el3 w A0_1 s0.Warps) (hc0_1 : s0.Warps.length ≤ c0_1) (R0_2 : Row el3 w A0_2 s0.Memory) (hc0_2 : s0.Memory.length ≤ c0_2) :
    Cll Try.prog 59 #[(.agg #[(.slice A0_0 s0.Code.length c0_0), (.slice A0_1 s0.Warps.length c0_1), (.slice A0_2 s0.Memory.length c0_2), (.int .i64 s0.Waiting), (.int .i64 s0.Phase)])] w (fun v_ w_ => v_ = (.bool r) ∧ Ext w w_) := by
  have H := wp.impl_Block_ended.math s0 hp
  have hB := Ext.refl w
  refine impl_Block_ended.start ?_
  unfold impl_Block_ended.vc
  unfold wp.impl_Block_ended at H
  refine newBlk (fun g4_ w21 L4 P4 e22 => ?_)
  have O4 := P4
  have L4 := Nat.le_trans hB.size L4
  have hB := ethen hB e22
  refine ⟨_, _, _, (O4.at 1 rfl rfl), ?_⟩
  obtain ⟨hp25, H⟩ := H
  obtain ⟨r23, hr24⟩ : ∃ r_, r_ = M.slices_ContainsFunc_impl_Warp_impl_Warp s0.Warps (fun z0_ => M.impl_Block_ended_1 z0_) := ⟨_, rfl⟩
  have H := H r23 hr24
  refine (slices_ContainsFunc_impl_Warp_impl_Warp.con hp25 hr24 (R0_1.ext hB) hc0_1 (fun z0_ Az0_1 cz0_1 Az0_2 cz0_2 h_ w_ e_ rz0_1 lz0_1 rz0_2 lz0_2 => cllApp (l1 := [_]) (l2 := []) (impl_Block_ended_1.con h_ rfl rz0_1 lz0_1 rz0_2 lz0_2))).mono ?_
  rintro _ w26 ⟨rfl, e27⟩
  have O4 := O4.ext e27
  have hB := ethen hB e27
  refine ⟨r23, rfl, ?_⟩
  obtain rfl := hr.trans H.symm
  exact ⟨rfl, hB⟩

def spec_l30Next.vc (A0_0 : Option Addr) (n0_0 : Nat) (c0_0 : Nat) (A0_1 : Option Addr) (n0_1 : Nat) (c0_1 : Nat) (A0_2 : Option Addr) (n0_2 : Nat) (c0_2 : Nat) (x0_3 : Int) (x0_4 : Int) (x1 : Int) (w : World) (K : Value → World → Prop) : Prop :=
  newK w (.cells #[(.slice A0_0 n0_0 c0_0), (.slice A0_1 n0_1 c0_1), (.slice A0_2 n0_2 c0_2), (.int .i64 x0_3), (.int .i64 x0_4)] 32) fun g21 w22 => newK w22 (.cells #[(.int .i64 0), (.int .i64 0), (.int .i64 0), (.int .i64 0)] 76) fun g23 w24 => ∃ (A25 : Option Addr) (n26 : Nat) (c27 : Nat), w24.cell? (((⟨g21, 0, none⟩ : Addr).add 1).add 0) = some (.slice A25 n26 c27) ∧ ((0 : Int) ≤ x1 ∧ x1 < ((n26 : Nat) : Int) ∧ ∃ a28 : Addr, A25 = some a28 ∧ ∃ (A29 : Option Addr) (n30 : Nat) (c31 : Nat), w24.cell? (((a28.add ((x1.toNat) * 3)).add 1).add 0) = some (.slice A29 n30 c31) ∧ (∃ M32 : Nat → Prop, ∃ (A33 : Option Addr) (n34 : Nat) (c35 : Nat), (¬ M32 (((⟨g21, 0, none⟩ : Addr).add 0)).block ∧ w24.cell? (((⟨g21, 0, none⟩ : Addr).add 0).add 0) = some (.slice A33 n34 c35)) ∧ ((0 : Int) ≤ (IntKind.wrap .i64 (((n30 : Nat) : Int) - 1)) ∧ (IntKind.wrap .i64 (((n30 : Nat) : Int) - 1)) < ((n30 : Nat) : Int) ∧ ∃ a36 : Addr, A29 = some a36 ∧ ∃ (n37 : Int), (¬ M32 (((a36.add (((IntKind.wrap .i64 (((n30 : Nat) : Int) - 1)).toNat) * 3)).add 0)).block ∧ w24.cell? (((a36.add (((IntKind.wrap .i64 (((n30 : Nat) : Int) - 1)).toNat) * 3)).add 0).add 0) = some (.int .i64 n37)) ∧ ((0 : Int) ≤ n37 ∧ n37 < ((n34 : Nat) : Int) ∧ ∃ a38 : Addr, A33 = some a38 ∧ ∃ (n39 : Int), (¬ M32 ((a38.add ((n37.toNat) * 4))).block ∧ w24.cell? ((a38.add ((n37.toNat) * 4)).add 0) = some (.int .i64 n39)) ∧ ∃ (n40 : Int), (¬ M32 ((a38.add ((n37.toNat) * 4))).block ∧ w24.cell? ((a38.add ((n37.toNat) * 4)).add 1) = some (.int .i64 n40)) ∧ ∃ (n41 : Int), (¬ M32 ((a38.add ((n37.toNat) * 4))).block ∧ w24.cell? ((a38.add ((n37.toNat) * 4)).add 2) = some (.int .i64 n41)) ∧ ∃ (n42 : Int), (¬ M32 ((a38.add ((n37.toNat) * 4))).block ∧ w24.cell? ((a38.add ((n37.toNat) * 4)).add 3) = some (.int .i64 n42)) ∧ stCells (⟨g23, 0, none⟩ : Addr) [(.int .i64 n39), (.int .i64 n40), (.int .i64 n41), (.int .i64 n42)] 0 w24.drew fun w43 => ∃ (n44 : Int), w43.cell? ((⟨g23, 0, none⟩ : Addr).add 0) = some (.int .i64 n44) ∧ ∃ (n45 : Int), w43.cell? ((⟨g23, 0, none⟩ : Addr).add 1) = some (.int .i64 n45) ∧ ∃ (n46 : Int), w43.cell? ((⟨g23, 0, none⟩ : Addr).add 2) = some (.int .i64 n46) ∧ ∃ (n47 : Int), w43.cell? ((⟨g23, 0, none⟩ : Addr).add 3) = some (.int .i64 n47) ∧ K (.agg #[(.int .i64 n44), (.int .i64 n45), (.int .i64 n46), (.int .i64 n47)]) w43))))

def spec_l30Next.ann : Ann := (.seq .l (.seq .l (.seq .l .l)))

theorem spec_l30Next.vc_eq (A0_0 : Option Addr) (n0_0 : Nat) (c0_0 : Nat) (A0_1 : Option Addr) (n0_1 : Nat) (c0_1 : Nat) (A0_2 : Option Addr) (n0_2 : Nat) (c0_2 : Nat) (x0_3 : Int) (x0_4 : Int) (x1 : Int) (w : World) (K : Value → World → Prop) : vcF Try.prog Try.f104 spec_l30Next.ann [(.agg #[(.slice A0_0 n0_0 c0_0), (.slice A0_1 n0_1 c0_1), (.slice A0_2 n0_2 c0_2), (.int .i64 x0_3), (.int .i64 x0_4)]), (.int .i64 x1)] K w = spec_l30Next.vc A0_0 n0_0 c0_0 A0_1 n0_1 c0_1 A0_2 n0_2 c0_2 x0_3 x0_4 x1 w K := by kernel_rfl

theorem spec_l30Next.start {A0_0 : Option Addr} {n0_0 : Nat} {c0_0 : Nat} {A0_1 : Option Addr} {n0_1 : Nat} {c0_1 : Nat} {A0_2 : Option Addr} {n0_2 : Nat} {c0_2 : Nat} {x0_3 : Int} {x0_4 : Int} {x1 : Int} {w : World} {K : Value → World → Prop} (h : spec_l30Next.vc A0_0 n0_0 c0_0 A0_1 n0_1 c0_1 A0_2 n0_2 c0_2 x0_3 x0_4 x1 w K) : Cll Try.prog 104 #[(.agg #[(.slice A0_0 n0_0 c0_0), (.slice A0_1 n0_1 c0_1), (.slice A0_2 n0_2 c0_2), (.int .i64 x0_3), (.int .i64 x0_4)]), (.int .i64 x1)] w K :=
  vcF_sound mixed (fn := Try.f104) (by kernel_rfl) (by kernel_rfl) (an := spec_l30Next.ann) (args := [(.agg #[(.slice A0_0 n0_0 c0_0), (.slice A0_1 n0_1 c0_1), (.slice A0_2 n0_2 c0_2), (.int .i64 x0_3), (.int .i64 x0_4)]), (.int .i64 x1)]) (by rw [spec_l30Next.vc_eq]; exact h)

theorem spec_l30Next.con {s0 : D.Block} {A0_0 : Option Addr} {c0_0 : Nat} {A0_1 : Option Addr} {c0_1 : Nat} {A0_2 : Option Addr} {c0_2 : Nat} {x1 : Int} {r : D.Ins} {w : World} (hp : M.spec_l30Next_pre s0 x1) (hr : r = M.spec_l30Next s0 x1) (R0_0 : Row el76 w A0_0 s0.Code) (hc0_0 : s0.Code.length ≤ c0_0) (R0_1 : RowW 102 el132 el3 w A0_1 s0.Warps) (hc0_1 : s0.Warps.length ≤ c0_1) (R0_2 : Row el3 w A0_2 s0.Memory) (hc0_2 : s0.Memory.length ≤ c0_2) :
    Cll Try.prog 104 #[(.agg #[(.slice A0_0 s0.Code.length c0_0), (.slice A0_1 s0.Warps.length c0_1), (.slice A0_2 s0.Memory.length c0_2), (.int .i64 s0.Waiting), (.int .i64 s0.Phase)]), (.int .i64 x1)] w (fun v_ w_ => v_ = (.agg #[(.int .i64 r.Op), (.int .i64 r.A), (.int .i64 r.B), (.int .i64 r.C)]) ∧ Ext w w_) := by
  have H := wp.spec_l30Next.math s0 x1 hp
  have hB := Ext.refl w
  refine spec_l30Next.start ?_
  unfold spec_l30Next.vc
  unfold wp.spec_l30Next at H
  refine newBlk (fun g4_ w21 L4 P4 e22 => ?_)
  have O4 := P4
  have L4 := Nat.le_trans hB.size L4
  have hB := ethen hB e22
  refine newBlk (fun g5_ w23 L5 P5 e24 => ?_)
  have N4_5 := O4.ne L5
  have O4 := O4.ext e24
  have O5 := P5
  have L5 := Nat.le_trans hB.size L5
  have hB := ethen hB e24
  refine ⟨_, _, _, (O4.at 1 rfl rfl), ?_⟩
  obtain ⟨⟨h0_28, h1_29⟩, H⟩ := H
  obtain ⟨a26, ha27, A33, c34, A35, c36, f30, f31, f32, R37, hle39, R38, hle40⟩ := RowW.at R0_1 h0_28 h1_29
  refine ⟨h0_28, h1_29, a26, ha27, ?_⟩
  refine ⟨_, _, _, (Ext.cell hB f31), ?_⟩
  refine ⟨(fun _ => False), ?_⟩
  refine ⟨_, _, _, ⟨(fun h_ => h_), (O4.at 0 rfl rfl)⟩, ?_⟩
  obtain ⟨⟨h0_45, h1_46⟩, H⟩ := H
  obtain ⟨a43, ha44, hat42⟩ := Row.at (R37.ext hB) h0_45 h1_46
  refine ⟨h0_45, (by first | exact h1_46 | omega | (simp at h1_46 ⊢; omega)), a43, ha44, ?_⟩
  refine ⟨_, ⟨(fun h_ => h_), (hat42 0 _ rfl)⟩, ?_⟩
  obtain ⟨⟨h0_50, h1_51⟩, H⟩ := H
  obtain ⟨a48, ha49, hat47⟩ := Row.at (R0_0.ext hB) h0_50 h1_51
  refine ⟨h0_50, h1_51, a48, ha49, ?_⟩
  refine ⟨_, ⟨(fun h_ => h_), (hat47 0 _ rfl)⟩, ?_⟩
  refine ⟨_, ⟨(fun h_ => h_), (hat47 1 _ rfl)⟩, ?_⟩
  refine ⟨_, ⟨(fun h_ => h_), (hat47 2 _ rfl)⟩, ?_⟩
  refine ⟨_, ⟨(fun h_ => h_), (hat47 3 _ rfl)⟩, ?_⟩
  have hS41 := Chg.refl (fun _ => False) w23
  have O4 := O4.ext (Ext.drew _)
  have O5 := O5.ext (Ext.drew _)
  have hB := ethen hB (Ext.drew _)
  have hS41 := hS41.then (Ext.drew _)
  refine stBlk O5 (o := 0) (cs' := #[(.int .i64 ((rd s0.Code ((rd ((rd s0.Warps x1).Frames) (IntKind.wrap .i64 ((((rd s0.Warps x1).Frames.length : Nat) : Int) - 1))).Pc)).Op)), (.int .i64 ((rd s0.Code ((rd ((rd s0.Warps x1).Frames) (IntKind.wrap .i64 ((((rd s0.Warps x1).Frames.length : Nat) : Int) - 1))).Pc)).A)), (.int .i64 ((rd s0.Code ((rd ((rd s0.Warps x1).Frames) (IntKind.wrap .i64 ((((rd s0.Warps x1).Frames.length : Nat) : Int) - 1))).Pc)).B)), (.int .i64 ((rd s0.Code ((rd ((rd s0.Warps x1).Frames) (IntKind.wrap .i64 ((((rd s0.Warps x1).Frames.length : Nat) : Int) - 1))).Pc)).C))]) rfl rfl (Nat.le_of_ble_eq_true rfl) rfl (fun w52 P5 e53 => ?_)
  have O4_ := O4.chg e53 N4_5
  have O4 := O4_
  have hB := echg hB e53 L5
  have O5 := P5
  refine ⟨_, (O5.at 0 rfl rfl), ?_⟩
  refine ⟨_, (O5.at 1 rfl rfl), ?_⟩
  refine ⟨_, (O5.at 2 rfl rfl), ?_⟩
  refine ⟨_, (O5.at 3 rfl rfl), ?_⟩
  obtain rfl := hr.trans H.symm
  exact ⟨rfl, hB⟩

def spec_NextOp.vc (A0_0 : Option Addr) (n0_0 : Nat) (c0_0 : Nat) (A0_1 : Option Addr) (n0_1 : Nat) (c0_1 : Nat) (A0_2 : Option Addr) (n0_2 : Nat) (c0_2 : Nat) (x0_3 : Int) (x0_4 : Int) (x1 : Int) (w : World) (K : Value → World → Prop) : Prop :=
  newK w (.cells #[(.slice A0_0 n0_0 c0_0), (.slice A0_1 n0_1 c0_1), (.slice A0_2 n0_2 c0_2), (.int .i64 x0_3), (.int .i64 x0_4)] 32) fun g21 w22 => ∃ (A23 : Option Addr) (n24 : Nat) (c25 : Nat), w22.cell? ((⟨g21, 0, none⟩ : Addr).add 0) = some (.slice A23 n24 c25) ∧ ∃ (A26 : Option Addr) (n27 : Nat) (c28 : Nat), w22.cell? ((⟨g21, 0, none⟩ : Addr).add 1) = some (.slice A26 n27 c28) ∧ ∃ (A29 : Option Addr) (n30 : Nat) (c31 : Nat), w22.cell? ((⟨g21, 0, none⟩ : Addr).add 2) = some (.slice A29 n30 c31) ∧ ∃ (n32 : Int), w22.cell? ((⟨g21, 0, none⟩ : Addr).add 3) = some (.int .i64 n32) ∧ ∃ (n33 : Int), w22.cell? ((⟨g21, 0, none⟩ : Addr).add 4) = some (.int .i64 n33) ∧ Cll Try.prog 48 #[(.agg #[(.slice A23 n24 c25), (.slice A26 n27 c28), (.slice A29 n30 c31), (.int .i64 n32), (.int .i64 n33)]), (.int .i64 x1)] w22 fun v34 w35 => (∃ (b36 : Bool), v34 = (.bool b36) ∧ bcase (!b36) (K (.int .i64 (-1)) w35) (∃ (A37 : Option Addr) (n38 : Nat) (c39 : Nat), w35.cell? (((⟨g21, 0, none⟩ : Addr).add 1).add 0) = some (.slice A37 n38 c39) ∧ ((0 : Int) ≤ x1 ∧ x1 < ((n38 : Nat) : Int) ∧ ∃ a40 : Addr, A37 = some a40 ∧ ∃ (A41 : Option Addr) (n42 : Nat) (c43 : Nat), w35.cell? (((a40.add ((x1.toNat) * 3)).add 1).add 0) = some (.slice A41 n42 c43) ∧ bcase (((n42 : Nat) : Int) == 0) (K (.int .i64 (-1)) w35) (∃ (A44 : Option Addr) (n45 : Nat) (c46 : Nat), w35.cell? ((⟨g21, 0, none⟩ : Addr).add 0) = some (.slice A44 n45 c46) ∧ ∃ (A47 : Option Addr) (n48 : Nat) (c49 : Nat), w35.cell? ((⟨g21, 0, none⟩ : Addr).add 1) = some (.slice A47 n48 c49) ∧ ∃ (A50 : Option Addr) (n51 : Nat) (c52 : Nat), w35.cell? ((⟨g21, 0, none⟩ : Addr).add 2) = some (.slice A50 n51 c52) ∧ ∃ (n53 : Int), w35.cell? ((⟨g21, 0, none⟩ : Addr).add 3) = some (.int .i64 n53) ∧ ∃ (n54 : Int), w35.cell? ((⟨g21, 0, none⟩ : Addr).add 4) = some (.int .i64 n54) ∧ Cll Try.prog 104 #[(.agg #[(.slice A44 n45 c46), (.slice A47 n48 c49), (.slice A50 n51 c52), (.int .i64 n53), (.int .i64 n54)]), (.int .i64 x1)] w35 fun v55 w56 => (∃ (n57 : Int), True ∧ ∃ (n58 : Int), True ∧ ∃ (n59 : Int), True ∧ ∃ (n60 : Int), True ∧ v55 = (.agg #[(.int .i64 n57), (.int .i64 n58), (.int .i64 n59), (.int .i64 n60)]) ∧ K (.int .i64 n57) w56)))))

def spec_NextOp.ann : Ann := (.seq .l (.seq (.seq .l (.two (.seq .l .l) .l)) (.seq .l .l)))

theorem spec_NextOp.vc_eq (A0_0 : Option Addr) (n0_0 : Nat) (c0_0 : Nat) (A0_1 : Option Addr) (n0_1 : Nat) (c0_1 : Nat) (A0_2 : Option Addr) (n0_2 : Nat) (c0_2 : Nat) (x0_3 : Int) (x0_4 : Int) (x1 : Int) (w : World) (K : Value → World → Prop) : vcF Try.prog Try.f160 spec_NextOp.ann [(.agg #[(.slice A0_0 n0_0 c0_0), (.slice A0_1 n0_1 c0_1), (.slice A0_2 n0_2 c0_2), (.int .i64 x0_3), (.int .i64 x0_4)]), (.int .i64 x1)] K w = spec_NextOp.vc A0_0 n0_0 c0_0 A0_1 n0_1 c0_1 A0_2 n0_2 c0_2 x0_3 x0_4 x1 w K := by kernel_rfl

theorem spec_NextOp.start {A0_0 : Option Addr} {n0_0 : Nat} {c0_0 : Nat} {A0_1 : Option Addr} {n0_1 : Nat} {c0_1 : Nat} {A0_2 : Option Addr} {n0_2 : Nat} {c0_2 : Nat} {x0_3 : Int} {x0_4 : Int} {x1 : Int} {w : World} {K : Value → World → Prop} (h : spec_NextOp.vc A0_0 n0_0 c0_0 A0_1 n0_1 c0_1 A0_2 n0_2 c0_2 x0_3 x0_4 x1 w K) : Cll Try.prog 160 #[(.agg #[(.slice A0_0 n0_0 c0_0), (.slice A0_1 n0_1 c0_1), (.slice A0_2 n0_2 c0_2), (.int .i64 x0_3), (.int .i64 x0_4)]), (.int .i64 x1)] w K :=
  vcF_sound mixed (fn := Try.f160) (by kernel_rfl) (by kernel_rfl) (an := spec_NextOp.ann) (args := [(.agg #[(.slice A0_0 n0_0 c0_0), (.slice A0_1 n0_1 c0_1), (.slice A0_2 n0_2 c0_2), (.int .i64 x0_3), (.int .i64 x0_4)]), (.int .i64 x1)]) (by rw [spec_NextOp.vc_eq]; exact h)

theorem spec_NextOp.con {s0 : D.Block} {A0_0 : Option Addr} {c0_0 : Nat} {A0_1 : Option Addr} {c0_1 : Nat} {A0_2 : Option Addr} {c0_2 : Nat} {x1 : Int} {r : Int} {w : World} (hp : M.spec_NextOp_pre s0 x1) (hr : r = M.spec_NextOp s0 x1) (R0_0 : Row el76 w A0_0 s0.Code) (hc0_0 : s0.Code.length ≤ c0_0) (R0_1 : RowW 102 el132 el3 w A0_1 s0.Warps) (hc0_1 : s0.Warps.length ≤ c0_1) (R0_2 : Row el3 w A0_2 s0.Memory) (hc0_2 : s0.Memory.length ≤ c0_2) :
    Cll Try.prog 160 #[(.agg #[(.slice A0_0 s0.Code.length c0_0), (.slice A0_1 s0.Warps.length c0_1), (.slice A0_2 s0.Memory.length c0_2), (.int .i64 s0.Waiting), (.int .i64 s0.Phase)]), (.int .i64 x1)] w (fun v_ w_ => v_ = (.int .i64 r) ∧ Ext w w_) := by
  have H := wp.spec_NextOp.math s0 x1 hp
  have hB := Ext.refl w
  refine spec_NextOp.start ?_
  unfold spec_NextOp.vc
  unfold wp.spec_NextOp at H
  refine newBlk (fun g4_ w21 L4 P4 e22 => ?_)
  have O4 := P4
  have L4 := Nat.le_trans hB.size L4
  have hB := ethen hB e22
  refine ⟨_, _, _, (O4.at 0 rfl rfl), ?_⟩
  refine ⟨_, _, _, (O4.at 1 rfl rfl), ?_⟩
  refine ⟨_, _, _, (O4.at 2 rfl rfl), ?_⟩
  refine ⟨_, (O4.at 3 rfl rfl), ?_⟩
  refine ⟨_, (O4.at 4 rfl rfl), ?_⟩
  obtain ⟨hp25, H⟩ := H
  obtain ⟨r23, hr24⟩ : ∃ r_, r_ = M.spec_l30Ok s0 x1 := ⟨_, rfl⟩
  have H := H r23 hr24
  refine (spec_l30Ok.con hp25 hr24 (R0_0.ext hB) hc0_0 (R0_1.ext hB) hc0_1 (R0_2.ext hB) hc0_2).mono ?_
  rintro _ w26 ⟨rfl, e27⟩
  have O4 := O4.ext e27
  have hB := ethen hB e27
  refine ⟨r23, rfl, ?_⟩
  refine bcase_mk (fun hc50 => ?_) (fun hc50 => ?_)
  · have H := (bcase_iff.1 H).1 hc50
    obtain rfl := hr.trans H.symm
    exact ⟨rfl, hB⟩
  · have H := (bcase_iff.1 H).2 hc50
    refine ⟨_, _, _, (O4.at 1 rfl rfl), ?_⟩
    obtain ⟨⟨h0_31, h1_32⟩, H⟩ := H
    obtain ⟨a29, ha30, A36, c37, A38, c39, f33, f34, f35, R40, hle42, R41, hle43⟩ := RowW.at R0_1 h0_31 h1_32
    refine ⟨h0_31, h1_32, a29, ha30, ?_⟩
    refine ⟨_, _, _, (Ext.cell hB f34), ?_⟩
    refine bcase_mk (fun hc49 => ?_) (fun hc49 => ?_)
    · have H := (bcase_iff.1 H).1 hc49
      obtain rfl := hr.trans H.symm
      exact ⟨rfl, hB⟩
    · have H := (bcase_iff.1 H).2 hc49
      refine ⟨_, _, _, (O4.at 0 rfl rfl), ?_⟩
      refine ⟨_, _, _, (O4.at 1 rfl rfl), ?_⟩
      refine ⟨_, _, _, (O4.at 2 rfl rfl), ?_⟩
      refine ⟨_, (O4.at 3 rfl rfl), ?_⟩
      refine ⟨_, (O4.at 4 rfl rfl), ?_⟩
      obtain ⟨hp46, H⟩ := H
      obtain ⟨r44, hr45⟩ : ∃ r_, r_ = M.spec_l30Next s0 x1 := ⟨_, rfl⟩
      have H := H r44 hr45
      refine (spec_l30Next.con hp46 hr45 (R0_0.ext hB) hc0_0 (R0_1.ext hB) hc0_1 (R0_2.ext hB) hc0_2).mono ?_
      rintro _ w47 ⟨rfl, e48⟩
      have O4 := O4.ext e48
      have hB := ethen hB e48
      refine ⟨r44.Op, trivial, ?_⟩
      refine ⟨r44.A, trivial, ?_⟩
      refine ⟨r44.B, trivial, ?_⟩
      refine ⟨r44.C, trivial, ?_⟩
      refine ⟨rfl, ?_⟩
      obtain rfl := hr.trans H.symm
      exact ⟨rfl, hB⟩

def impl_Block_nextIns.vc (A0_0 : Option Addr) (n0_0 : Nat) (c0_0 : Nat) (A0_1 : Option Addr) (n0_1 : Nat) (c0_1 : Nat) (A0_2 : Option Addr) (n0_2 : Nat) (c0_2 : Nat) (x0_3 : Int) (x0_4 : Int) (x1 : Int) (w : World) (K : Value → World → Prop) : Prop :=
  newK w (.cells #[(.slice A0_0 n0_0 c0_0), (.slice A0_1 n0_1 c0_1), (.slice A0_2 n0_2 c0_2), (.int .i64 x0_3), (.int .i64 x0_4)] 32) fun g21 w22 => newK w22 (.cells #[(.int .i64 0), (.int .i64 0), (.int .i64 0), (.int .i64 0)] 76) fun g23 w24 => ∃ (A25 : Option Addr) (n26 : Nat) (c27 : Nat), w24.cell? (((⟨g21, 0, none⟩ : Addr).add 1).add 0) = some (.slice A25 n26 c27) ∧ ((0 : Int) ≤ x1 ∧ x1 < ((n26 : Nat) : Int) ∧ ∃ a28 : Addr, A25 = some a28 ∧ ∃ (A29 : Option Addr) (n30 : Nat) (c31 : Nat), w24.cell? (((a28.add ((x1.toNat) * 3)).add 1).add 0) = some (.slice A29 n30 c31) ∧ bcase (((n30 : Nat) : Int) == 0) (stCells (⟨g23, 0, none⟩ : Addr) [(.int .i64 0), (.int .i64 0), (.int .i64 0), (.int .i64 0)] 0 w24 fun w32 => ∃ (n33 : Int), w32.cell? ((⟨g23, 0, none⟩ : Addr).add 0) = some (.int .i64 n33) ∧ ∃ (n34 : Int), w32.cell? ((⟨g23, 0, none⟩ : Addr).add 1) = some (.int .i64 n34) ∧ ∃ (n35 : Int), w32.cell? ((⟨g23, 0, none⟩ : Addr).add 2) = some (.int .i64 n35) ∧ ∃ (n36 : Int), w32.cell? ((⟨g23, 0, none⟩ : Addr).add 3) = some (.int .i64 n36) ∧ K (.tuple #[(.agg #[(.int .i64 n33), (.int .i64 n34), (.int .i64 n35), (.int .i64 n36)]), (.bool false)]) w32) ((∃ M37 : Nat → Prop, ∃ (A38 : Option Addr) (n39 : Nat) (c40 : Nat), (¬ M37 (((⟨g21, 0, none⟩ : Addr).add 0)).block ∧ w24.cell? (((⟨g21, 0, none⟩ : Addr).add 0).add 0) = some (.slice A38 n39 c40)) ∧ ((0 : Int) ≤ (IntKind.wrap .i64 (((n30 : Nat) : Int) - 1)) ∧ (IntKind.wrap .i64 (((n30 : Nat) : Int) - 1)) < ((n30 : Nat) : Int) ∧ ∃ a41 : Addr, A29 = some a41 ∧ ∃ (n42 : Int), (¬ M37 (((a41.add (((IntKind.wrap .i64 (((n30 : Nat) : Int) - 1)).toNat) * 3)).add 0)).block ∧ w24.cell? (((a41.add (((IntKind.wrap .i64 (((n30 : Nat) : Int) - 1)).toNat) * 3)).add 0).add 0) = some (.int .i64 n42)) ∧ ((0 : Int) ≤ n42 ∧ n42 < ((n39 : Nat) : Int) ∧ ∃ a43 : Addr, A38 = some a43 ∧ ∃ (n44 : Int), (¬ M37 ((a43.add ((n42.toNat) * 4))).block ∧ w24.cell? ((a43.add ((n42.toNat) * 4)).add 0) = some (.int .i64 n44)) ∧ ∃ (n45 : Int), (¬ M37 ((a43.add ((n42.toNat) * 4))).block ∧ w24.cell? ((a43.add ((n42.toNat) * 4)).add 1) = some (.int .i64 n45)) ∧ ∃ (n46 : Int), (¬ M37 ((a43.add ((n42.toNat) * 4))).block ∧ w24.cell? ((a43.add ((n42.toNat) * 4)).add 2) = some (.int .i64 n46)) ∧ ∃ (n47 : Int), (¬ M37 ((a43.add ((n42.toNat) * 4))).block ∧ w24.cell? ((a43.add ((n42.toNat) * 4)).add 3) = some (.int .i64 n47)) ∧ stCells (⟨g23, 0, none⟩ : Addr) [(.int .i64 n44), (.int .i64 n45), (.int .i64 n46), (.int .i64 n47)] 0 w24.drew fun w48 => SameBut M37 w24 w48 ∧ ∃ (n49 : Int), w48.cell? ((⟨g23, 0, none⟩ : Addr).add 0) = some (.int .i64 n49) ∧ ∃ (n50 : Int), w48.cell? ((⟨g23, 0, none⟩ : Addr).add 1) = some (.int .i64 n50) ∧ ∃ (n51 : Int), w48.cell? ((⟨g23, 0, none⟩ : Addr).add 2) = some (.int .i64 n51) ∧ ∃ (n52 : Int), w48.cell? ((⟨g23, 0, none⟩ : Addr).add 3) = some (.int .i64 n52) ∧ K (.tuple #[(.agg #[(.int .i64 n49), (.int .i64 n50), (.int .i64 n51), (.int .i64 n52)]), (.bool true)]) w48)))))

def impl_Block_nextIns.ann : Ann := (.seq .l (.seq .l (.seq (.seq .l (.two (.seq .l .l) .l)) (.seq .l .l))))

theorem impl_Block_nextIns.vc_eq (A0_0 : Option Addr) (n0_0 : Nat) (c0_0 : Nat) (A0_1 : Option Addr) (n0_1 : Nat) (c0_1 : Nat) (A0_2 : Option Addr) (n0_2 : Nat) (c0_2 : Nat) (x0_3 : Int) (x0_4 : Int) (x1 : Int) (w : World) (K : Value → World → Prop) : vcF Try.prog Try.f108 impl_Block_nextIns.ann [(.agg #[(.slice A0_0 n0_0 c0_0), (.slice A0_1 n0_1 c0_1), (.slice A0_2 n0_2 c0_2), (.int .i64 x0_3), (.int .i64 x0_4)]), (.int .i64 x1)] K w = impl_Block_nextIns.vc A0_0 n0_0 c0_0 A0_1 n0_1 c0_1 A0_2 n0_2 c0_2 x0_3 x0_4 x1 w K := by kernel_rfl

theorem impl_Block_nextIns.start {A0_0 : Option Addr} {n0_0 : Nat} {c0_0 : Nat} {A0_1 : Option Addr} {n0_1 : Nat} {c0_1 : Nat} {A0_2 : Option Addr} {n0_2 : Nat} {c0_2 : Nat} {x0_3 : Int} {x0_4 : Int} {x1 : Int} {w : World} {K : Value → World → Prop} (h : impl_Block_nextIns.vc A0_0 n0_0 c0_0 A0_1 n0_1 c0_1 A0_2 n0_2 c0_2 x0_3 x0_4 x1 w K) : Cll Try.prog 108 #[(.agg #[(.slice A0_0 n0_0 c0_0), (.slice A0_1 n0_1 c0_1), (.slice A0_2 n0_2 c0_2), (.int .i64 x0_3), (.int .i64 x0_4)]), (.int .i64 x1)] w K :=
  vcF_sound mixed (fn := Try.f108) (by kernel_rfl) (by kernel_rfl) (an := impl_Block_nextIns.ann) (args := [(.agg #[(.slice A0_0 n0_0 c0_0), (.slice A0_1 n0_1 c0_1), (.slice A0_2 n0_2 c0_2), (.int .i64 x0_3), (.int .i64 x0_4)]), (.int .i64 x1)]) (by rw [impl_Block_nextIns.vc_eq]; exact h)

theorem impl_Block_nextIns.con {s0 : D.Block} {A0_0 : Option Addr} {c0_0 : Nat} {A0_1 : Option Addr} {c0_1 : Nat} {A0_2 : Option Addr} {c0_2 : Nat} {x1 : Int} {r : D.Ins × Bool} {w : World} (hp : M.impl_Block_nextIns_pre s0 x1) (hr : r = M.impl_Block_nextIns s0 x1) (R0_0 : Row el76 w A0_0 s0.Code) (hc0_0 : s0.Code.length ≤ c0_0) (R0_1 : RowW 102 el132 el3 w A0_1 s0.Warps) (hc0_1 : s0.Warps.length ≤ c0_1) (R0_2 : Row el3 w A0_2 s0.Memory) (hc0_2 : s0.Memory.length ≤ c0_2) :
    Cll Try.prog 108 #[(.agg #[(.slice A0_0 s0.Code.length c0_0), (.slice A0_1 s0.Warps.length c0_1), (.slice A0_2 s0.Memory.length c0_2), (.int .i64 s0.Waiting), (.int .i64 s0.Phase)]), (.int .i64 x1)] w (fun v_ w_ => v_ = (.tuple #[(.agg #[(.int .i64 r.1.Op), (.int .i64 r.1.A), (.int .i64 r.1.B), (.int .i64 r.1.C)]), (.bool r.2)]) ∧ Ext w w_) := by
  have H := wp.impl_Block_nextIns.math s0 x1 hp
  have hB := Ext.refl w
  refine impl_Block_nextIns.start ?_
  unfold impl_Block_nextIns.vc
  unfold wp.impl_Block_nextIns at H
  refine newBlk (fun g4_ w21 L4 P4 e22 => ?_)
  have O4 := P4
  have L4 := Nat.le_trans hB.size L4
  have hB := ethen hB e22
  refine newBlk (fun g5_ w23 L5 P5 e24 => ?_)
  have N4_5 := O4.ne L5
  have O4 := O4.ext e24
  have O5 := P5
  have L5 := Nat.le_trans hB.size L5
  have hB := ethen hB e24
  refine ⟨_, _, _, (O4.at 1 rfl rfl), ?_⟩
  obtain ⟨⟨h0_28, h1_29⟩, H⟩ := H
  obtain ⟨a26, ha27, A33, c34, A35, c36, f30, f31, f32, R37, hle39, R38, hle40⟩ := RowW.at R0_1 h0_28 h1_29
  refine ⟨h0_28, h1_29, a26, ha27, ?_⟩
  refine ⟨_, _, _, (Ext.cell hB f31), ?_⟩
  refine bcase_mk (fun hc68 => ?_) (fun hc68 => ?_)
  · have H := (bcase_iff.1 H).1 hc68
    refine stBlk O5 (o := 0) (cs' := #[(.int .i64 0), (.int .i64 0), (.int .i64 0), (.int .i64 0)]) rfl rfl (Nat.le_of_ble_eq_true rfl) rfl (fun w41 P5 e42 => ?_)
    have O4_ := O4.chg e42 N4_5
    have O4 := O4_
    have hB := echg hB e42 L5
    have O5 := P5
    refine ⟨_, (O5.at 0 rfl rfl), ?_⟩
    refine ⟨_, (O5.at 1 rfl rfl), ?_⟩
    refine ⟨_, (O5.at 2 rfl rfl), ?_⟩
    refine ⟨_, (O5.at 3 rfl rfl), ?_⟩
    obtain rfl := hr.trans H.symm
    exact ⟨rfl, hB⟩
  · have H := (bcase_iff.1 H).2 hc68
    refine ⟨((fun k_ => k_ = g5_)), ?_⟩
    refine ⟨_, _, _, ⟨(notM1 (N4_5) (by first | rfl | (simp only [blk_add]))), (O4.at 0 rfl rfl)⟩, ?_⟩
    obtain ⟨⟨h0_59, h1_60⟩, H⟩ := H
    obtain ⟨a57, ha58, hat56⟩ := Row.at (R37.ext hB) h0_59 h1_60
    refine ⟨h0_59, (by first | exact h1_60 | omega | (simp at h1_60 ⊢; omega)), a57, ha58, ?_⟩
    refine ⟨_, ⟨(notM1 (M := ((fun k_ => k_ = g5_))) (g := Addr.block a57) (fun h_ => absurd (R37.old (ne_ix h0_59 h1_60) _ ⟨_, ha58, rfl⟩) (Nat.not_lt.2 (box_low L5 _ h_))) (by first | rfl | (simp only [blk_add]))), (hat56 0 _ rfl)⟩, ?_⟩
    obtain ⟨⟨h0_64, h1_65⟩, H⟩ := H
    obtain ⟨a62, ha63, hat61⟩ := Row.at (R0_0.ext hB) h0_64 h1_65
    refine ⟨h0_64, h1_65, a62, ha63, ?_⟩
    refine ⟨_, ⟨(notM1 (M := ((fun k_ => k_ = g5_))) (g := Addr.block a62) (fun h_ => absurd (R0_0.old (ne_ix h0_64 h1_65) _ ⟨_, ha63, rfl⟩) (Nat.not_lt.2 (box_low L5 _ h_))) (by first | rfl | (simp only [blk_add]))), (hat61 0 _ rfl)⟩, ?_⟩
    refine ⟨_, ⟨(notM1 (M := ((fun k_ => k_ = g5_))) (g := Addr.block a62) (fun h_ => absurd (R0_0.old (ne_ix h0_64 h1_65) _ ⟨_, ha63, rfl⟩) (Nat.not_lt.2 (box_low L5 _ h_))) (by first | rfl | (simp only [blk_add]))), (hat61 1 _ rfl)⟩, ?_⟩
    refine ⟨_, ⟨(notM1 (M := ((fun k_ => k_ = g5_))) (g := Addr.block a62) (fun h_ => absurd (R0_0.old (ne_ix h0_64 h1_65) _ ⟨_, ha63, rfl⟩) (Nat.not_lt.2 (box_low L5 _ h_))) (by first | rfl | (simp only [blk_add]))), (hat61 2 _ rfl)⟩, ?_⟩
    refine ⟨_, ⟨(notM1 (M := ((fun k_ => k_ = g5_))) (g := Addr.block a62) (fun h_ => absurd (R0_0.old (ne_ix h0_64 h1_65) _ ⟨_, ha63, rfl⟩) (Nat.not_lt.2 (box_low L5 _ h_))) (by first | rfl | (simp only [blk_add]))), (hat61 3 _ rfl)⟩, ?_⟩
    have hS43 := Chg.refl ((fun k_ => k_ = g5_)) w23
    have O4 := O4.ext (Ext.drew _)
    have O5 := O5.ext (Ext.drew _)
    have hB := ethen hB (Ext.drew _)
    have hS43 := hS43.then (Ext.drew _)
    refine stBlk O5 (o := 0) (cs' := #[(.int .i64 ((rd s0.Code ((rd ((rd s0.Warps x1).Frames) (IntKind.wrap .i64 ((((rd s0.Warps x1).Frames.length : Nat) : Int) - 1))).Pc)).Op)), (.int .i64 ((rd s0.Code ((rd ((rd s0.Warps x1).Frames) (IntKind.wrap .i64 ((((rd s0.Warps x1).Frames.length : Nat) : Int) - 1))).Pc)).A)), (.int .i64 ((rd s0.Code ((rd ((rd s0.Warps x1).Frames) (IntKind.wrap .i64 ((((rd s0.Warps x1).Frames.length : Nat) : Int) - 1))).Pc)).B)), (.int .i64 ((rd s0.Code ((rd ((rd s0.Warps x1).Frames) (IntKind.wrap .i64 ((((rd s0.Warps x1).Frames.length : Nat) : Int) - 1))).Pc)).C))]) rfl rfl (Nat.le_of_ble_eq_true rfl) rfl (fun w66 P5 e67 => ?_)
    have O4_ := O4.chg e67 N4_5
    have O4 := O4_
    have hB := echg hB e67 L5
    have hS43 := hS43.chgb e67 (Or.inr rfl)
    have O5 := P5
    refine ⟨sameBut_chg hS43, ?_⟩
    refine ⟨_, (O5.at 0 rfl rfl), ?_⟩
    refine ⟨_, (O5.at 1 rfl rfl), ?_⟩
    refine ⟨_, (O5.at 2 rfl rfl), ?_⟩
    refine ⟨_, (O5.at 3 rfl rfl), ?_⟩
    obtain rfl := hr.trans H.symm
    exact ⟨rfl, hB⟩

def impl_NextOp.vc (A0_0 : Option Addr) (n0_0 : Nat) (c0_0 : Nat) (A0_1 : Option Addr) (n0_1 : Nat) (c0_1 : Nat) (A0_2 : Option Addr) (n0_2 : Nat) (c0_2 : Nat) (x0_3 : Int) (x0_4 : Int) (x1 : Int) (w : World) (K : Value → World → Prop) : Prop :=
  newK w (.cells #[(.slice A0_0 n0_0 c0_0), (.slice A0_1 n0_1 c0_1), (.slice A0_2 n0_2 c0_2), (.int .i64 x0_3), (.int .i64 x0_4)] 32) fun g21 w22 => ∃ (A23 : Option Addr) (n24 : Nat) (c25 : Nat), w22.cell? ((⟨g21, 0, none⟩ : Addr).add 0) = some (.slice A23 n24 c25) ∧ ∃ (A26 : Option Addr) (n27 : Nat) (c28 : Nat), w22.cell? ((⟨g21, 0, none⟩ : Addr).add 1) = some (.slice A26 n27 c28) ∧ ∃ (A29 : Option Addr) (n30 : Nat) (c31 : Nat), w22.cell? ((⟨g21, 0, none⟩ : Addr).add 2) = some (.slice A29 n30 c31) ∧ ∃ (n32 : Int), w22.cell? ((⟨g21, 0, none⟩ : Addr).add 3) = some (.int .i64 n32) ∧ ∃ (n33 : Int), w22.cell? ((⟨g21, 0, none⟩ : Addr).add 4) = some (.int .i64 n33) ∧ Cll Try.prog 51 #[(.agg #[(.slice A23 n24 c25), (.slice A26 n27 c28), (.slice A29 n30 c31), (.int .i64 n32), (.int .i64 n33)]), (.int .i64 x1)] w22 fun v34 w35 => (∃ (b36 : Bool), v34 = (.bool b36) ∧ bcase (!b36) (K (.int .i64 (-1)) w35) (∃ (A37 : Option Addr) (n38 : Nat) (c39 : Nat), w35.cell? ((⟨g21, 0, none⟩ : Addr).add 0) = some (.slice A37 n38 c39) ∧ ∃ (A40 : Option Addr) (n41 : Nat) (c42 : Nat), w35.cell? ((⟨g21, 0, none⟩ : Addr).add 1) = some (.slice A40 n41 c42) ∧ ∃ (A43 : Option Addr) (n44 : Nat) (c45 : Nat), w35.cell? ((⟨g21, 0, none⟩ : Addr).add 2) = some (.slice A43 n44 c45) ∧ ∃ (n46 : Int), w35.cell? ((⟨g21, 0, none⟩ : Addr).add 3) = some (.int .i64 n46) ∧ ∃ (n47 : Int), w35.cell? ((⟨g21, 0, none⟩ : Addr).add 4) = some (.int .i64 n47) ∧ Cll Try.prog 108 #[(.agg #[(.slice A37 n38 c39), (.slice A40 n41 c42), (.slice A43 n44 c45), (.int .i64 n46), (.int .i64 n47)]), (.int .i64 x1)] w35 fun v48 w49 => (∃ u50 : Value, (∃ (n51 : Int), True ∧ ∃ (n52 : Int), True ∧ ∃ (n53 : Int), True ∧ ∃ (n54 : Int), True ∧ u50 = (.agg #[(.int .i64 n51), (.int .i64 n52), (.int .i64 n53), (.int .i64 n54)]) ∧ ∃ u55 : Value, (∃ (b56 : Bool), u55 = (.bool b56) ∧ v48 = (.tuple #[(.agg #[(.int .i64 n51), (.int .i64 n52), (.int .i64 n53), (.int .i64 n54)]), (.bool b56)]) ∧ newK w49 (.cells #[(.int .i64 0), (.int .i64 0), (.int .i64 0), (.int .i64 0)] 76) fun g57 w58 => stCells (⟨g57, 0, none⟩ : Addr) [(.int .i64 n51), (.int .i64 n52), (.int .i64 n53), (.int .i64 n54)] 0 w58 fun w59 => bcase (!b56) (K (.int .i64 (-1)) w59) (∃ (n60 : Int), w59.cell? (((⟨g57, 0, none⟩ : Addr).add 0).add 0) = some (.int .i64 n60) ∧ K (.int .i64 n60) w59))))))

def impl_NextOp.ann : Ann := (.seq .l (.seq (.seq .l (.two (.seq .l .l) .l)) (.seq .l (.seq (.seq .l (.two (.seq .l .l) .l)) (.seq .l .l)))))

theorem impl_NextOp.vc_eq (A0_0 : Option Addr) (n0_0 : Nat) (c0_0 : Nat) (A0_1 : Option Addr) (n0_1 : Nat) (c0_1 : Nat) (A0_2 : Option Addr) (n0_2 : Nat) (c0_2 : Nat) (x0_3 : Int) (x0_4 : Int) (x1 : Int) (w : World) (K : Value → World → Prop) : vcF Try.prog Try.f161 impl_NextOp.ann [(.agg #[(.slice A0_0 n0_0 c0_0), (.slice A0_1 n0_1 c0_1), (.slice A0_2 n0_2 c0_2), (.int .i64 x0_3), (.int .i64 x0_4)]), (.int .i64 x1)] K w = impl_NextOp.vc A0_0 n0_0 c0_0 A0_1 n0_1 c0_1 A0_2 n0_2 c0_2 x0_3 x0_4 x1 w K := by kernel_rfl

theorem impl_NextOp.start {A0_0 : Option Addr} {n0_0 : Nat} {c0_0 : Nat} {A0_1 : Option Addr} {n0_1 : Nat} {c0_1 : Nat} {A0_2 : Option Addr} {n0_2 : Nat} {c0_2 : Nat} {x0_3 : Int} {x0_4 : Int} {x1 : Int} {w : World} {K : Value → World → Prop} (h : impl_NextOp.vc A0_0 n0_0 c0_0 A0_1 n0_1 c0_1 A0_2 n0_2 c0_2 x0_3 x0_4 x1 w K) : Cll Try.prog 161 #[(.agg #[(.slice A0_0 n0_0 c0_0), (.slice A0_1 n0_1 c0_1), (.slice A0_2 n0_2 c0_2), (.int .i64 x0_3), (.int .i64 x0_4)]), (.int .i64 x1)] w K :=
  vcF_sound mixed (fn := Try.f161) (by kernel_rfl) (by kernel_rfl) (an := impl_NextOp.ann) (args := [(.agg #[(.slice A0_0 n0_0 c0_0), (.slice A0_1 n0_1 c0_1), (.slice A0_2 n0_2 c0_2), (.int .i64 x0_3), (.int .i64 x0_4)]), (.int .i64 x1)]) (by rw [impl_NextOp.vc_eq]; exact h)

theorem impl_NextOp.con {s0 : D.Block} {A0_0 : Option Addr} {c0_0 : Nat} {A0_1 : Option Addr} {c0_1 : Nat} {A0_2 : Option Addr} {c0_2 : Nat} {x1 : Int} {r : Int} {w : World} (hp : M.impl_NextOp_pre s0 x1) (hr : r = M.impl_NextOp s0 x1) (R0_0 : Row el76 w A0_0 s0.Code) (hc0_0 : s0.Code.length ≤ c0_0) (R0_1 : RowW 102 el132 el3 w A0_1 s0.Warps) (hc0_1 : s0.Warps.length ≤ c0_1) (R0_2 : Row el3 w A0_2 s0.Memory) (hc0_2 : s0.Memory.length ≤ c0_2) :
    Cll Try.prog 161 #[(.agg #[(.slice A0_0 s0.Code.length c0_0), (.slice A0_1 s0.Warps.length c0_1), (.slice A0_2 s0.Memory.length c0_2), (.int .i64 s0.Waiting), (.int .i64 s0.Phase)]), (.int .i64 x1)] w (fun v_ w_ => v_ = (.int .i64 r) ∧ Ext w w_) := by
  have H := wp.impl_NextOp.math s0 x1 hp
  have hB := Ext.refl w
  refine impl_NextOp.start ?_
  unfold impl_NextOp.vc
  unfold wp.impl_NextOp at H
  refine newBlk (fun g4_ w21 L4 P4 e22 => ?_)
  have O4 := P4
  have L4 := Nat.le_trans hB.size L4
  have hB := ethen hB e22
  refine ⟨_, _, _, (O4.at 0 rfl rfl), ?_⟩
  refine ⟨_, _, _, (O4.at 1 rfl rfl), ?_⟩
  refine ⟨_, _, _, (O4.at 2 rfl rfl), ?_⟩
  refine ⟨_, (O4.at 3 rfl rfl), ?_⟩
  refine ⟨_, (O4.at 4 rfl rfl), ?_⟩
  obtain ⟨hp25, H⟩ := H
  obtain ⟨r23, hr24⟩ : ∃ r_, r_ = M.impl_hasWarp s0 x1 := ⟨_, rfl⟩
  have H := H r23 hr24
  refine (impl_hasWarp.con hp25 hr24 (R0_0.ext hB) hc0_0 (R0_1.ext hB) hc0_1 (R0_2.ext hB) hc0_2).mono ?_
  rintro _ w26 ⟨rfl, e27⟩
  have O4 := O4.ext e27
  have hB := ethen hB e27
  refine ⟨r23, rfl, ?_⟩
  refine bcase_mk (fun hc38 => ?_) (fun hc38 => ?_)
  · have H := (bcase_iff.1 H).1 hc38
    obtain rfl := hr.trans H.symm
    exact ⟨rfl, hB⟩
  · have H := (bcase_iff.1 H).2 hc38
    refine ⟨_, _, _, (O4.at 0 rfl rfl), ?_⟩
    refine ⟨_, _, _, (O4.at 1 rfl rfl), ?_⟩
    refine ⟨_, _, _, (O4.at 2 rfl rfl), ?_⟩
    refine ⟨_, (O4.at 3 rfl rfl), ?_⟩
    refine ⟨_, (O4.at 4 rfl rfl), ?_⟩
    obtain ⟨hp30, H⟩ := H
    obtain ⟨r28, hr29⟩ : ∃ r_, r_ = M.impl_Block_nextIns s0 x1 := ⟨_, rfl⟩
    have H := H r28 hr29
    refine (impl_Block_nextIns.con hp30 hr29 (R0_0.ext hB) hc0_0 (R0_1.ext hB) hc0_1 (R0_2.ext hB) hc0_2).mono ?_
    rintro _ w31 ⟨rfl, e32⟩
    have O4 := O4.ext e32
    have hB := ethen hB e32
    refine ⟨(.agg #[(.int .i64 r28.1.Op), (.int .i64 r28.1.A), (.int .i64 r28.1.B), (.int .i64 r28.1.C)]), ?_⟩
    refine ⟨r28.1.Op, trivial, ?_⟩
    refine ⟨r28.1.A, trivial, ?_⟩
    refine ⟨r28.1.B, trivial, ?_⟩
    refine ⟨r28.1.C, trivial, ?_⟩
    refine ⟨rfl, ?_⟩
    refine ⟨(.bool r28.2), ?_⟩
    refine ⟨r28.2, rfl, ?_⟩
    refine ⟨rfl, ?_⟩
    refine newBlk (fun g5_ w33 L5 P5 e34 => ?_)
    have N4_5 := O4.ne L5
    have O4 := O4.ext e34
    have O5 := P5
    have L5 := Nat.le_trans hB.size L5
    have hB := ethen hB e34
    refine stBlk O5 (o := 0) (cs' := #[(.int .i64 r28.1.Op), (.int .i64 r28.1.A), (.int .i64 r28.1.B), (.int .i64 r28.1.C)]) rfl rfl (Nat.le_of_ble_eq_true rfl) rfl (fun w35 P5 e36 => ?_)
    have O4_ := O4.chg e36 N4_5
    have O4 := O4_
    have hB := echg hB e36 L5
    have O5 := P5
    refine bcase_mk (fun hc37 => ?_) (fun hc37 => ?_)
    · have H := (bcase_iff.1 H).1 hc37
      obtain rfl := hr.trans H.symm
      exact ⟨rfl, hB⟩
    · have H := (bcase_iff.1 H).2 hc37
      refine ⟨_, (O5.at 0 rfl rfl), ?_⟩
      obtain rfl := hr.trans H.symm
      exact ⟨rfl, hB⟩

def spec_AtBarrier.vc (A0_0 : Option Addr) (n0_0 : Nat) (c0_0 : Nat) (A0_1 : Option Addr) (n0_1 : Nat) (c0_1 : Nat) (A0_2 : Option Addr) (n0_2 : Nat) (c0_2 : Nat) (x0_3 : Int) (x0_4 : Int) (x1 : Int) (w : World) (K : Value → World → Prop) : Prop :=
  newK w (.cells #[(.slice A0_0 n0_0 c0_0), (.slice A0_1 n0_1 c0_1), (.slice A0_2 n0_2 c0_2), (.int .i64 x0_3), (.int .i64 x0_4)] 32) fun g21 w22 => ∃ (A23 : Option Addr) (n24 : Nat) (c25 : Nat), w22.cell? ((⟨g21, 0, none⟩ : Addr).add 0) = some (.slice A23 n24 c25) ∧ ∃ (A26 : Option Addr) (n27 : Nat) (c28 : Nat), w22.cell? ((⟨g21, 0, none⟩ : Addr).add 1) = some (.slice A26 n27 c28) ∧ ∃ (A29 : Option Addr) (n30 : Nat) (c31 : Nat), w22.cell? ((⟨g21, 0, none⟩ : Addr).add 2) = some (.slice A29 n30 c31) ∧ ∃ (n32 : Int), w22.cell? ((⟨g21, 0, none⟩ : Addr).add 3) = some (.int .i64 n32) ∧ ∃ (n33 : Int), w22.cell? ((⟨g21, 0, none⟩ : Addr).add 4) = some (.int .i64 n33) ∧ Cll Try.prog 160 #[(.agg #[(.slice A23 n24 c25), (.slice A26 n27 c28), (.slice A29 n30 c31), (.int .i64 n32), (.int .i64 n33)]), (.int .i64 x1)] w22 fun v34 w35 => (∃ (n36 : Int), v34 = (.int .i64 n36) ∧ K (.bool (n36 == 16)) w35)

def spec_AtBarrier.ann : Ann := (.seq .l (.seq .l .l))

theorem spec_AtBarrier.vc_eq (A0_0 : Option Addr) (n0_0 : Nat) (c0_0 : Nat) (A0_1 : Option Addr) (n0_1 : Nat) (c0_1 : Nat) (A0_2 : Option Addr) (n0_2 : Nat) (c0_2 : Nat) (x0_3 : Int) (x0_4 : Int) (x1 : Int) (w : World) (K : Value → World → Prop) : vcF Try.prog Try.f117 spec_AtBarrier.ann [(.agg #[(.slice A0_0 n0_0 c0_0), (.slice A0_1 n0_1 c0_1), (.slice A0_2 n0_2 c0_2), (.int .i64 x0_3), (.int .i64 x0_4)]), (.int .i64 x1)] K w = spec_AtBarrier.vc A0_0 n0_0 c0_0 A0_1 n0_1 c0_1 A0_2 n0_2 c0_2 x0_3 x0_4 x1 w K := by kernel_rfl

theorem spec_AtBarrier.start {A0_0 : Option Addr} {n0_0 : Nat} {c0_0 : Nat} {A0_1 : Option Addr} {n0_1 : Nat} {c0_1 : Nat} {A0_2 : Option Addr} {n0_2 : Nat} {c0_2 : Nat} {x0_3 : Int} {x0_4 : Int} {x1 : Int} {w : World} {K : Value → World → Prop} (h : spec_AtBarrier.vc A0_0 n0_0 c0_0 A0_1 n0_1 c0_1 A0_2 n0_2 c0_2 x0_3 x0_4 x1 w K) : Cll Try.prog 117 #[(.agg #[(.slice A0_0 n0_0 c0_0), (.slice A0_1 n0_1 c0_1), (.slice A0_2 n0_2 c0_2), (.int .i64 x0_3), (.int .i64 x0_4)]), (.int .i64 x1)] w K :=
  vcF_sound mixed (fn := Try.f117) (by kernel_rfl) (by kernel_rfl) (an := spec_AtBarrier.ann) (args := [(.agg #[(.slice A0_0 n0_0 c0_0), (.slice A0_1 n0_1 c0_1), (.slice A0_2 n0_2 c0_2), (.int .i64 x0_3), (.int .i64 x0_4)]), (.int .i64 x1)]) (by rw [spec_AtBarrier.vc_eq]; exact h)

theorem spec_AtBarrier.con {s0 : D.Block} {A0_0 : Option Addr} {c0_0 : Nat} {A0_1 : Option Addr} {c0_1 : Nat} {A0_2 : Option Addr} {c0_2 : Nat} {x1 : Int} {r : Bool} {w : World} (hp : M.spec_AtBarrier_pre s0 x1) (hr : r = M.spec_AtBarrier s0 x1) (R0_0 : Row el76 w A0_0 s0.Code) (hc0_0 : s0.Code.length ≤ c0_0) (R0_1 : RowW 102 el132 el3 w A0_1 s0.Warps) (hc0_1 : s0.Warps.length ≤ c0_1) (R0_2 : Row el3 w A0_2 s0.Memory) (hc0_2 : s0.Memory.length ≤ c0_2) :
    Cll Try.prog 117 #[(.agg #[(.slice A0_0 s0.Code.length c0_0), (.slice A0_1 s0.Warps.length c0_1), (.slice A0_2 s0.Memory.length c0_2), (.int .i64 s0.Waiting), (.int .i64 s0.Phase)]), (.int .i64 x1)] w (fun v_ w_ => v_ = (.bool r) ∧ Ext w w_) := by
  have H := wp.spec_AtBarrier.math s0 x1 hp
  have hB := Ext.refl w
  refine spec_AtBarrier.start ?_
  unfold spec_AtBarrier.vc
  unfold wp.spec_AtBarrier at H
  refine newBlk (fun g4_ w21 L4 P4 e22 => ?_)
  have O4 := P4
  have L4 := Nat.le_trans hB.size L4
  have hB := ethen hB e22
  refine ⟨_, _, _, (O4.at 0 rfl rfl), ?_⟩
  refine ⟨_, _, _, (O4.at 1 rfl rfl), ?_⟩
  refine ⟨_, _, _, (O4.at 2 rfl rfl), ?_⟩
  refine ⟨_, (O4.at 3 rfl rfl), ?_⟩
  refine ⟨_, (O4.at 4 rfl rfl), ?_⟩
  obtain ⟨hp25, H⟩ := H
  obtain ⟨r23, hr24⟩ : ∃ r_, r_ = M.spec_NextOp s0 x1 := ⟨_, rfl⟩
  have H := H r23 hr24
  refine (spec_NextOp.con hp25 hr24 (R0_0.ext hB) hc0_0 (R0_1.ext hB) hc0_1 (R0_2.ext hB) hc0_2).mono ?_
  rintro _ w26 ⟨rfl, e27⟩
  have O4 := O4.ext e27
  have hB := ethen hB e27
  refine ⟨r23, rfl, ?_⟩
  obtain rfl := hr.trans H.symm
  exact ⟨rfl, hB⟩

def impl_AtBarrier.vc (A0_0 : Option Addr) (n0_0 : Nat) (c0_0 : Nat) (A0_1 : Option Addr) (n0_1 : Nat) (c0_1 : Nat) (A0_2 : Option Addr) (n0_2 : Nat) (c0_2 : Nat) (x0_3 : Int) (x0_4 : Int) (x1 : Int) (w : World) (K : Value → World → Prop) : Prop :=
  newK w (.cells #[(.slice A0_0 n0_0 c0_0), (.slice A0_1 n0_1 c0_1), (.slice A0_2 n0_2 c0_2), (.int .i64 x0_3), (.int .i64 x0_4)] 32) fun g21 w22 => ∃ (A23 : Option Addr) (n24 : Nat) (c25 : Nat), w22.cell? ((⟨g21, 0, none⟩ : Addr).add 0) = some (.slice A23 n24 c25) ∧ ∃ (A26 : Option Addr) (n27 : Nat) (c28 : Nat), w22.cell? ((⟨g21, 0, none⟩ : Addr).add 1) = some (.slice A26 n27 c28) ∧ ∃ (A29 : Option Addr) (n30 : Nat) (c31 : Nat), w22.cell? ((⟨g21, 0, none⟩ : Addr).add 2) = some (.slice A29 n30 c31) ∧ ∃ (n32 : Int), w22.cell? ((⟨g21, 0, none⟩ : Addr).add 3) = some (.int .i64 n32) ∧ ∃ (n33 : Int), w22.cell? ((⟨g21, 0, none⟩ : Addr).add 4) = some (.int .i64 n33) ∧ Cll Try.prog 161 #[(.agg #[(.slice A23 n24 c25), (.slice A26 n27 c28), (.slice A29 n30 c31), (.int .i64 n32), (.int .i64 n33)]), (.int .i64 x1)] w22 fun v34 w35 => (∃ (n36 : Int), v34 = (.int .i64 n36) ∧ K (.bool (n36 == 16)) w35)

def impl_AtBarrier.ann : Ann := (.seq .l (.seq .l .l))

theorem impl_AtBarrier.vc_eq (A0_0 : Option Addr) (n0_0 : Nat) (c0_0 : Nat) (A0_1 : Option Addr) (n0_1 : Nat) (c0_1 : Nat) (A0_2 : Option Addr) (n0_2 : Nat) (c0_2 : Nat) (x0_3 : Int) (x0_4 : Int) (x1 : Int) (w : World) (K : Value → World → Prop) : vcF Try.prog Try.f118 impl_AtBarrier.ann [(.agg #[(.slice A0_0 n0_0 c0_0), (.slice A0_1 n0_1 c0_1), (.slice A0_2 n0_2 c0_2), (.int .i64 x0_3), (.int .i64 x0_4)]), (.int .i64 x1)] K w = impl_AtBarrier.vc A0_0 n0_0 c0_0 A0_1 n0_1 c0_1 A0_2 n0_2 c0_2 x0_3 x0_4 x1 w K := by kernel_rfl

theorem impl_AtBarrier.start {A0_0 : Option Addr} {n0_0 : Nat} {c0_0 : Nat} {A0_1 : Option Addr} {n0_1 : Nat} {c0_1 : Nat} {A0_2 : Option Addr} {n0_2 : Nat} {c0_2 : Nat} {x0_3 : Int} {x0_4 : Int} {x1 : Int} {w : World} {K : Value → World → Prop} (h : impl_AtBarrier.vc A0_0 n0_0 c0_0 A0_1 n0_1 c0_1 A0_2 n0_2 c0_2 x0_3 x0_4 x1 w K) : Cll Try.prog 118 #[(.agg #[(.slice A0_0 n0_0 c0_0), (.slice A0_1 n0_1 c0_1), (.slice A0_2 n0_2 c0_2), (.int .i64 x0_3), (.int .i64 x0_4)]), (.int .i64 x1)] w K :=
  vcF_sound mixed (fn := Try.f118) (by kernel_rfl) (by kernel_rfl) (an := impl_AtBarrier.ann) (args := [(.agg #[(.slice A0_0 n0_0 c0_0), (.slice A0_1 n0_1 c0_1), (.slice A0_2 n0_2 c0_2), (.int .i64 x0_3), (.int .i64 x0_4)]), (.int .i64 x1)]) (by rw [impl_AtBarrier.vc_eq]; exact h)

theorem impl_AtBarrier.con {s0 : D.Block} {A0_0 : Option Addr} {c0_0 : Nat} {A0_1 : Option Addr} {c0_1 : Nat} {A0_2 : Option Addr} {c0_2 : Nat} {x1 : Int} {r : Bool} {w : World} (hp : M.impl_AtBarrier_pre s0 x1) (hr : r = M.impl_AtBarrier s0 x1) (R0_0 : Row el76 w A0_0 s0.Code) (hc0_0 : s0.Code.length ≤ c0_0) (R0_1 : RowW 102 el132 el3 w A0_1 s0.Warps) (hc0_1 : s0.Warps.length ≤ c0_1) (R0_2 : Row el3 w A0_2 s0.Memory) (hc0_2 : s0.Memory.length ≤ c0_2) :
    Cll Try.prog 118 #[(.agg #[(.slice A0_0 s0.Code.length c0_0), (.slice A0_1 s0.Warps.length c0_1), (.slice A0_2 s0.Memory.length c0_2), (.int .i64 s0.Waiting), (.int .i64 s0.Phase)]), (.int .i64 x1)] w (fun v_ w_ => v_ = (.bool r) ∧ Ext w w_) := by
  have H := wp.impl_AtBarrier.math s0 x1 hp
  have hB := Ext.refl w
  refine impl_AtBarrier.start ?_
  unfold impl_AtBarrier.vc
  unfold wp.impl_AtBarrier at H
  refine newBlk (fun g4_ w21 L4 P4 e22 => ?_)
  have O4 := P4
  have L4 := Nat.le_trans hB.size L4
  have hB := ethen hB e22
  refine ⟨_, _, _, (O4.at 0 rfl rfl), ?_⟩
  refine ⟨_, _, _, (O4.at 1 rfl rfl), ?_⟩
  refine ⟨_, _, _, (O4.at 2 rfl rfl), ?_⟩
  refine ⟨_, (O4.at 3 rfl rfl), ?_⟩
  refine ⟨_, (O4.at 4 rfl rfl), ?_⟩
  obtain ⟨hp25, H⟩ := H
  obtain ⟨r23, hr24⟩ : ∃ r_, r_ = M.impl_NextOp s0 x1 := ⟨_, rfl⟩
  have H := H r23 hr24
  refine (impl_NextOp.con hp25 hr24 (R0_0.ext hB) hc0_0 (R0_1.ext hB) hc0_1 (R0_2.ext hB) hc0_2).mono ?_
  rintro _ w26 ⟨rfl, e27⟩
  have O4 := O4.ext e27
  have hB := ethen hB e27
  refine ⟨r23, rfl, ?_⟩
  obtain rfl := hr.trans H.symm
  exact ⟨rfl, hB⟩

def spec_IsSplitBarrier.vc (A0_0 : Option Addr) (n0_0 : Nat) (c0_0 : Nat) (A0_1 : Option Addr) (n0_1 : Nat) (c0_1 : Nat) (A0_2 : Option Addr) (n0_2 : Nat) (c0_2 : Nat) (x0_3 : Int) (x0_4 : Int) (x1 : Int) (w : World) (K : Value → World → Prop) : Prop :=
  newK w (.cells #[(.slice A0_0 n0_0 c0_0), (.slice A0_1 n0_1 c0_1), (.slice A0_2 n0_2 c0_2), (.int .i64 x0_3), (.int .i64 x0_4)] 32) fun g21 w22 => ∃ (A23 : Option Addr) (n24 : Nat) (c25 : Nat), w22.cell? ((⟨g21, 0, none⟩ : Addr).add 0) = some (.slice A23 n24 c25) ∧ ∃ (A26 : Option Addr) (n27 : Nat) (c28 : Nat), w22.cell? ((⟨g21, 0, none⟩ : Addr).add 1) = some (.slice A26 n27 c28) ∧ ∃ (A29 : Option Addr) (n30 : Nat) (c31 : Nat), w22.cell? ((⟨g21, 0, none⟩ : Addr).add 2) = some (.slice A29 n30 c31) ∧ ∃ (n32 : Int), w22.cell? ((⟨g21, 0, none⟩ : Addr).add 3) = some (.int .i64 n32) ∧ ∃ (n33 : Int), w22.cell? ((⟨g21, 0, none⟩ : Addr).add 4) = some (.int .i64 n33) ∧ Cll Try.prog 117 #[(.agg #[(.slice A23 n24 c25), (.slice A26 n27 c28), (.slice A29 n30 c31), (.int .i64 n32), (.int .i64 n33)]), (.int .i64 x1)] w22 fun v34 w35 => (∃ (b36 : Bool), v34 = (.bool b36) ∧ bcase b36 (∃ (A37 : Option Addr) (n38 : Nat) (c39 : Nat), w35.cell? (((⟨g21, 0, none⟩ : Addr).add 1).add 0) = some (.slice A37 n38 c39) ∧ ((0 : Int) ≤ x1 ∧ x1 < ((n38 : Nat) : Int) ∧ ∃ a40 : Addr, A37 = some a40 ∧ ∃ (A41 : Option Addr) (n42 : Nat) (c43 : Nat), w35.cell? (((a40.add ((x1.toNat) * 3)).add 1).add 0) = some (.slice A41 n42 c43) ∧ K (.bool (decide (((n42 : Nat) : Int) > 1))) w35)) (K (.bool false) w35))

def spec_IsSplitBarrier.ann : Ann := (.seq .l (.seq .l .l))

theorem spec_IsSplitBarrier.vc_eq (A0_0 : Option Addr) (n0_0 : Nat) (c0_0 : Nat) (A0_1 : Option Addr) (n0_1 : Nat) (c0_1 : Nat) (A0_2 : Option Addr) (n0_2 : Nat) (c0_2 : Nat) (x0_3 : Int) (x0_4 : Int) (x1 : Int) (w : World) (K : Value → World → Prop) : vcF Try.prog Try.f60 spec_IsSplitBarrier.ann [(.agg #[(.slice A0_0 n0_0 c0_0), (.slice A0_1 n0_1 c0_1), (.slice A0_2 n0_2 c0_2), (.int .i64 x0_3), (.int .i64 x0_4)]), (.int .i64 x1)] K w = spec_IsSplitBarrier.vc A0_0 n0_0 c0_0 A0_1 n0_1 c0_1 A0_2 n0_2 c0_2 x0_3 x0_4 x1 w K := by kernel_rfl

theorem spec_IsSplitBarrier.start {A0_0 : Option Addr} {n0_0 : Nat} {c0_0 : Nat} {A0_1 : Option Addr} {n0_1 : Nat} {c0_1 : Nat} {A0_2 : Option Addr} {n0_2 : Nat} {c0_2 : Nat} {x0_3 : Int} {x0_4 : Int} {x1 : Int} {w : World} {K : Value → World → Prop} (h : spec_IsSplitBarrier.vc A0_0 n0_0 c0_0 A0_1 n0_1 c0_1 A0_2 n0_2 c0_2 x0_3 x0_4 x1 w K) : Cll Try.prog 60 #[(.agg #[(.slice A0_0 n0_0 c0_0), (.slice A0_1 n0_1 c0_1), (.slice A0_2 n0_2 c0_2), (.int .i64 x0_3), (.int .i64 x0_4)]), (.int .i64 x1)] w K :=
  vcF_sound mixed (fn := Try.f60) (by kernel_rfl) (by kernel_rfl) (an := spec_IsSplitBarrier.ann) (args := [(.agg #[(.slice A0_0 n0_0 c0_0), (.slice A0_1 n0_1 c0_1), (.slice A0_2 n0_2 c0_2), (.int .i64 x0_3), (.int .i64 x0_4)]), (.int .i64 x1)]) (by rw [spec_IsSplitBarrier.vc_eq]; exact h)

theorem spec_IsSplitBarrier.con {s0 : D.Block} {A0_0 : Option Addr} {c0_0 : Nat} {A0_1 : Option Addr} {c0_1 : Nat} {A0_2 : Option Addr} {c0_2 : Nat} {x1 : Int} {r : Bool} {w : World} (hp : M.spec_IsSplitBarrier_pre s0 x1) (hr : r = M.spec_IsSplitBarrier s0 x1) (R0_0 : Row el76 w A0_0 s0.Code) (hc0_0 : s0.Code.length ≤ c0_0) (R0_1 : RowW 102 el132 el3 w A0_1 s0.Warps) (hc0_1 : s0.Warps.length ≤ c0_1) (R0_2 : Row el3 w A0_2 s0.Memory) (hc0_2 : s0.Memory.length ≤ c0_2) :
    Cll Try.prog 60 #[(.agg #[(.slice A0_0 s0.Code.length c0_0), (.slice A0_1 s0.Warps.length c0_1), (.slice A0_2 s0.Memory.length c0_2), (.int .i64 s0.Waiting), (.int .i64 s0.Phase)]), (.int .i64 x1)] w (fun v_ w_ => v_ = (.bool r) ∧ Ext w w_) := by
  have H := wp.spec_IsSplitBarrier.math s0 x1 hp
  have hB := Ext.refl w
  refine spec_IsSplitBarrier.start ?_
  unfold spec_IsSplitBarrier.vc
  unfold wp.spec_IsSplitBarrier at H
  refine newBlk (fun g4_ w21 L4 P4 e22 => ?_)
  have O4 := P4
  have L4 := Nat.le_trans hB.size L4
  have hB := ethen hB e22
  refine ⟨_, _, _, (O4.at 0 rfl rfl), ?_⟩
  refine ⟨_, _, _, (O4.at 1 rfl rfl), ?_⟩
  refine ⟨_, _, _, (O4.at 2 rfl rfl), ?_⟩
  refine ⟨_, (O4.at 3 rfl rfl), ?_⟩
  refine ⟨_, (O4.at 4 rfl rfl), ?_⟩
  obtain ⟨hp25, H⟩ := H
  obtain ⟨r23, hr24⟩ : ∃ r_, r_ = M.spec_AtBarrier s0 x1 := ⟨_, rfl⟩
  have H := H r23 hr24
  refine (spec_AtBarrier.con hp25 hr24 (R0_0.ext hB) hc0_0 (R0_1.ext hB) hc0_1 (R0_2.ext hB) hc0_2).mono ?_
  rintro _ w26 ⟨rfl, e27⟩
  have O4 := O4.ext e27
  have hB := ethen hB e27
  refine ⟨r23, rfl, ?_⟩
  refine bcase_mk (fun hc44 => ?_) (fun hc44 => ?_)
  · have H := (bcase_iff.1 H).1 hc44
    refine ⟨_, _, _, (O4.at 1 rfl rfl), ?_⟩
    obtain ⟨⟨h0_31, h1_32⟩, H⟩ := H
    obtain ⟨a29, ha30, A36, c37, A38, c39, f33, f34, f35, R40, hle42, R41, hle43⟩ := RowW.at R0_1 h0_31 h1_32
    refine ⟨h0_31, h1_32, a29, ha30, ?_⟩
    refine ⟨_, _, _, (Ext.cell hB f34), ?_⟩
    obtain rfl := hr.trans H.symm
    exact ⟨rfl, hB⟩
  · have H := (bcase_iff.1 H).2 hc44
    obtain rfl := hr.trans H.symm
    exact ⟨rfl, hB⟩

def impl_IsSplitBarrier.vc (A0_0 : Option Addr) (n0_0 : Nat) (c0_0 : Nat) (A0_1 : Option Addr) (n0_1 : Nat) (c0_1 : Nat) (A0_2 : Option Addr) (n0_2 : Nat) (c0_2 : Nat) (x0_3 : Int) (x0_4 : Int) (x1 : Int) (w : World) (K : Value → World → Prop) : Prop :=
  newK w (.cells #[(.slice A0_0 n0_0 c0_0), (.slice A0_1 n0_1 c0_1), (.slice A0_2 n0_2 c0_2), (.int .i64 x0_3), (.int .i64 x0_4)] 32) fun g21 w22 => ∃ (A23 : Option Addr) (n24 : Nat) (c25 : Nat), w22.cell? ((⟨g21, 0, none⟩ : Addr).add 0) = some (.slice A23 n24 c25) ∧ ∃ (A26 : Option Addr) (n27 : Nat) (c28 : Nat), w22.cell? ((⟨g21, 0, none⟩ : Addr).add 1) = some (.slice A26 n27 c28) ∧ ∃ (A29 : Option Addr) (n30 : Nat) (c31 : Nat), w22.cell? ((⟨g21, 0, none⟩ : Addr).add 2) = some (.slice A29 n30 c31) ∧ ∃ (n32 : Int), w22.cell? ((⟨g21, 0, none⟩ : Addr).add 3) = some (.int .i64 n32) ∧ ∃ (n33 : Int), w22.cell? ((⟨g21, 0, none⟩ : Addr).add 4) = some (.int .i64 n33) ∧ Cll Try.prog 118 #[(.agg #[(.slice A23 n24 c25), (.slice A26 n27 c28), (.slice A29 n30 c31), (.int .i64 n32), (.int .i64 n33)]), (.int .i64 x1)] w22 fun v34 w35 => (∃ (b36 : Bool), v34 = (.bool b36) ∧ bcase b36 (∃ (A37 : Option Addr) (n38 : Nat) (c39 : Nat), w35.cell? (((⟨g21, 0, none⟩ : Addr).add 1).add 0) = some (.slice A37 n38 c39) ∧ ((0 : Int) ≤ x1 ∧ x1 < ((n38 : Nat) : Int) ∧ ∃ a40 : Addr, A37 = some a40 ∧ ∃ (A41 : Option Addr) (n42 : Nat) (c43 : Nat), w35.cell? (((a40.add ((x1.toNat) * 3)).add 1).add 0) = some (.slice A41 n42 c43) ∧ K (.bool (decide (((n42 : Nat) : Int) > 1))) w35)) (K (.bool false) w35))

def impl_IsSplitBarrier.ann : Ann := (.seq .l (.seq .l .l))

theorem impl_IsSplitBarrier.vc_eq (A0_0 : Option Addr) (n0_0 : Nat) (c0_0 : Nat) (A0_1 : Option Addr) (n0_1 : Nat) (c0_1 : Nat) (A0_2 : Option Addr) (n0_2 : Nat) (c0_2 : Nat) (x0_3 : Int) (x0_4 : Int) (x1 : Int) (w : World) (K : Value → World → Prop) : vcF Try.prog Try.f61 impl_IsSplitBarrier.ann [(.agg #[(.slice A0_0 n0_0 c0_0), (.slice A0_1 n0_1 c0_1), (.slice A0_2 n0_2 c0_2), (.int .i64 x0_3), (.int .i64 x0_4)]), (.int .i64 x1)] K w = impl_IsSplitBarrier.vc A0_0 n0_0 c0_0 A0_1 n0_1 c0_1 A0_2 n0_2 c0_2 x0_3 x0_4 x1 w K := by kernel_rfl

theorem impl_IsSplitBarrier.start {A0_0 : Option Addr} {n0_0 : Nat} {c0_0 : Nat} {A0_1 : Option Addr} {n0_1 : Nat} {c0_1 : Nat} {A0_2 : Option Addr} {n0_2 : Nat} {c0_2 : Nat} {x0_3 : Int} {x0_4 : Int} {x1 : Int} {w : World} {K : Value → World → Prop} (h : impl_IsSplitBarrier.vc A0_0 n0_0 c0_0 A0_1 n0_1 c0_1 A0_2 n0_2 c0_2 x0_3 x0_4 x1 w K) : Cll Try.prog 61 #[(.agg #[(.slice A0_0 n0_0 c0_0), (.slice A0_1 n0_1 c0_1), (.slice A0_2 n0_2 c0_2), (.int .i64 x0_3), (.int .i64 x0_4)]), (.int .i64 x1)] w K :=
  vcF_sound mixed (fn := Try.f61) (by kernel_rfl) (by kernel_rfl) (an := impl_IsSplitBarrier.ann) (args := [(.agg #[(.slice A0_0 n0_0 c0_0), (.slice A0_1 n0_1 c0_1), (.slice A0_2 n0_2 c0_2), (.int .i64 x0_3), (.int .i64 x0_4)]), (.int .i64 x1)]) (by rw [impl_IsSplitBarrier.vc_eq]; exact h)

theorem impl_IsSplitBarrier.con {s0 : D.Block} {A0_0 : Option Addr} {c0_0 : Nat} {A0_1 : Option Addr} {c0_1 : Nat} {A0_2 : Option Addr} {c0_2 : Nat} {x1 : Int} {r : Bool} {w : World} (hp : M.impl_IsSplitBarrier_pre s0 x1) (hr : r = M.impl_IsSplitBarrier s0 x1) (R0_0 : Row el76 w A0_0 s0.Code) (hc0_0 : s0.Code.length ≤ c0_0) (R0_1 : RowW 102 el132 el3 w A0_1 s0.Warps) (hc0_1 : s0.Warps.length ≤ c0_1) (R0_2 : Row el3 w A0_2 s0.Memory) (hc0_2 : s0.Memory.length ≤ c0_2) :
    Cll Try.prog 61 #[(.agg #[(.slice A0_0 s0.Code.length c0_0), (.slice A0_1 s0.Warps.length c0_1), (.slice A0_2 s0.Memory.length c0_2), (.int .i64 s0.Waiting), (.int .i64 s0.Phase)]), (.int .i64 x1)] w (fun v_ w_ => v_ = (.bool r) ∧ Ext w w_) := by
  have H := wp.impl_IsSplitBarrier.math s0 x1 hp
  have hB := Ext.refl w
  refine impl_IsSplitBarrier.start ?_
  unfold impl_IsSplitBarrier.vc
  unfold wp.impl_IsSplitBarrier at H
  refine newBlk (fun g4_ w21 L4 P4 e22 => ?_)
  have O4 := P4
  have L4 := Nat.le_trans hB.size L4
  have hB := ethen hB e22
  refine ⟨_, _, _, (O4.at 0 rfl rfl), ?_⟩
  refine ⟨_, _, _, (O4.at 1 rfl rfl), ?_⟩
  refine ⟨_, _, _, (O4.at 2 rfl rfl), ?_⟩
  refine ⟨_, (O4.at 3 rfl rfl), ?_⟩
  refine ⟨_, (O4.at 4 rfl rfl), ?_⟩
  obtain ⟨hp25, H⟩ := H
  obtain ⟨r23, hr24⟩ : ∃ r_, r_ = M.impl_AtBarrier s0 x1 := ⟨_, rfl⟩
  have H := H r23 hr24
  refine (impl_AtBarrier.con hp25 hr24 (R0_0.ext hB) hc0_0 (R0_1.ext hB) hc0_1 (R0_2.ext hB) hc0_2).mono ?_
  rintro _ w26 ⟨rfl, e27⟩
  have O4 := O4.ext e27
  have hB := ethen hB e27
  refine ⟨r23, rfl, ?_⟩
  refine bcase_mk (fun hc44 => ?_) (fun hc44 => ?_)
  · have H := (bcase_iff.1 H).1 hc44
    refine ⟨_, _, _, (O4.at 1 rfl rfl), ?_⟩
    obtain ⟨⟨h0_31, h1_32⟩, H⟩ := H
    obtain ⟨a29, ha30, A36, c37, A38, c39, f33, f34, f35, R40, hle42, R41, hle43⟩ := RowW.at R0_1 h0_31 h1_32
    refine ⟨h0_31, h1_32, a29, ha30, ?_⟩
    refine ⟨_, _, _, (Ext.cell hB f34), ?_⟩
    obtain rfl := hr.trans H.symm
    exact ⟨rfl, hB⟩
  · have H := (bcase_iff.1 H).2 hc44
    obtain rfl := hr.trans H.symm
    exact ⟨rfl, hB⟩

end Go.V
