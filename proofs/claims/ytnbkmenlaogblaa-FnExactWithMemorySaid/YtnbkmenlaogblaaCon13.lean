import Derived.Test.YtnbkmenlaogblaaMath13
import Derived.Test.YtnbkmenlaogblaaSeat
import Derived.Test.YtnbkmenlaogblaaCon5
namespace Go.V
open Go.Proofs
set_option linter.unusedVariables false
set_option linter.unusedSimpArgs false
set_option maxRecDepth 100000

def laws_szFrameS.vc (A0 : Option Addr) (n0 : Nat) (c0 : Nat) (x1 : Int) (w : World) (K : Value → World → Prop) : Prop :=
  bcase (decide ((IntKind.wrap .i64 (x1 - ((n0 : Nat) : Int))) < 0)) (K (.int .i64 (-1)) w) (K (.int .i64 (IntKind.wrap .i64 (x1 - ((n0 : Nat) : Int)))) w)

def laws_szFrameS.ann : Ann := (.seq .l (.seq .l (.seq (.seq .l (.two (.seq .l .l) .l)) (.seq .l .l))))

theorem laws_szFrameS.vc_eq (A0 : Option Addr) (n0 : Nat) (c0 : Nat) (x1 : Int) (w : World) (K : Value → World → Prop) : vcF Try.prog Try.f150 laws_szFrameS.ann [(.slice A0 n0 c0), (.int .i64 x1)] K w = laws_szFrameS.vc A0 n0 c0 x1 w K := by kernel_rfl

theorem laws_szFrameS.start {A0 : Option Addr} {n0 : Nat} {c0 : Nat} {x1 : Int} {w : World} {K : Value → World → Prop} (h : laws_szFrameS.vc A0 n0 c0 x1 w K) : Cll Try.prog 150 #[(.slice A0 n0 c0), (.int .i64 x1)] w K :=
  vcF_sound mixed (fn := Try.f150) (by kernel_rfl) (by kernel_rfl) (an := laws_szFrameS.ann) (args := [(.slice A0 n0 c0), (.int .i64 x1)]) (by rw [laws_szFrameS.vc_eq]; exact h)

theorem laws_szFrameS.con {xs0 : List D.Frame} {A0 : Option Addr} {c0 : Nat} {x1 : Int} {r : Int} {w : World} (hp : M.laws_szFrameS_pre xs0 x1) (hr : r = M.laws_szFrameS xs0 x1) (R0 : Row el148 w A0 xs0) (hc0 : xs0.length ≤ c0) :
    Cll Try.prog 150 #[(.slice A0 xs0.length c0), (.int .i64 x1)] w (fun v_ w_ => v_ = (.int .i64 r) ∧ Ext w w_) := by
  have H := wp.laws_szFrameS.math xs0 x1 hp
  have hB := Ext.refl w
  refine laws_szFrameS.start ?_
  unfold laws_szFrameS.vc
  unfold wp.laws_szFrameS at H
  refine bcase_mk (fun hc21 => ?_) (fun hc21 => ?_)
  · have H := (bcase_iff.1 H).1 hc21
    obtain rfl := hr.trans H.symm
    exact ⟨rfl, hB⟩
  · have H := (bcase_iff.1 H).2 hc21
    obtain rfl := hr.trans H.symm
    exact ⟨rfl, hB⟩

def laws_szWarp.vc (x0_0 : Int) (A0_1 : Option Addr) (n0_1 : Nat) (c0_1 : Nat) (A0_2 : Option Addr) (n0_2 : Nat) (c0_2 : Nat) (x1 : Int) (w : World) (K : Value → World → Prop) : Prop :=
  newK w (.cells #[(.int .i64 x0_0), (.slice A0_1 n0_1 c0_1), (.slice A0_2 n0_2 c0_2)] 99) fun g21 w22 => ∃ (A23 : Option Addr) (n24 : Nat) (c25 : Nat), w22.cell? (((⟨g21, 0, none⟩ : Addr).add 1).add 0) = some (.slice A23 n24 c25) ∧ Cll Try.prog 150 #[(.slice A23 n24 c25), (.int .i64 x1)] w22 fun v26 w27 => (∃ (n28 : Int), v26 = (.int .i64 n28) ∧ bcase (decide (n28 < 0)) (K (.int .i64 (-1)) w27) (∃ (A29 : Option Addr) (n30 : Nat) (c31 : Nat), w27.cell? (((⟨g21, 0, none⟩ : Addr).add 2).add 0) = some (.slice A29 n30 c31) ∧ Cll Try.prog 47 #[(.slice A29 n30 c31), (.int .i64 n28)] w27 fun v32 w33 => (∃ (n34 : Int), v32 = (.int .i64 n34) ∧ bcase (decide (n34 < 0)) (K (.int .i64 (-1)) w33) (K (.int .i64 n34) w33))))

def laws_szWarp.ann : Ann := (.seq .l (.seq .l (.seq (.seq .l (.two (.seq .l .l) .l)) (.seq .l (.seq (.seq .l (.two (.seq .l .l) .l)) (.seq .l .l))))))

theorem laws_szWarp.vc_eq (x0_0 : Int) (A0_1 : Option Addr) (n0_1 : Nat) (c0_1 : Nat) (A0_2 : Option Addr) (n0_2 : Nat) (c0_2 : Nat) (x1 : Int) (w : World) (K : Value → World → Prop) : vcF Try.prog Try.f102 laws_szWarp.ann [(.agg #[(.int .i64 x0_0), (.slice A0_1 n0_1 c0_1), (.slice A0_2 n0_2 c0_2)]), (.int .i64 x1)] K w = laws_szWarp.vc x0_0 A0_1 n0_1 c0_1 A0_2 n0_2 c0_2 x1 w K := by kernel_rfl

theorem laws_szWarp.start {x0_0 : Int} {A0_1 : Option Addr} {n0_1 : Nat} {c0_1 : Nat} {A0_2 : Option Addr} {n0_2 : Nat} {c0_2 : Nat} {x1 : Int} {w : World} {K : Value → World → Prop} (h : laws_szWarp.vc x0_0 A0_1 n0_1 c0_1 A0_2 n0_2 c0_2 x1 w K) : Cll Try.prog 102 #[(.agg #[(.int .i64 x0_0), (.slice A0_1 n0_1 c0_1), (.slice A0_2 n0_2 c0_2)]), (.int .i64 x1)] w K :=
  vcF_sound mixed (fn := Try.f102) (by kernel_rfl) (by kernel_rfl) (an := laws_szWarp.ann) (args := [(.agg #[(.int .i64 x0_0), (.slice A0_1 n0_1 c0_1), (.slice A0_2 n0_2 c0_2)]), (.int .i64 x1)]) (by rw [laws_szWarp.vc_eq]; exact h)

theorem laws_szWarp.con {s0 : D.Warp} {A0_1 : Option Addr} {c0_1 : Nat} {A0_2 : Option Addr} {c0_2 : Nat} {x1 : Int} {r : Int} {w : World} (hp : M.laws_szWarp_pre s0 x1) (hr : r = M.laws_szWarp s0 x1) (R0_1 : Row el148 w A0_1 s0.Frames) (hc0_1 : s0.Frames.length ≤ c0_1) (R0_2 : Row el3 w A0_2 s0.Regs) (hc0_2 : s0.Regs.length ≤ c0_2) :
    Cll Try.prog 102 #[(.agg #[(.int .i64 s0.Number), (.slice A0_1 s0.Frames.length c0_1), (.slice A0_2 s0.Regs.length c0_2)]), (.int .i64 x1)] w (fun v_ w_ => v_ = (.int .i64 r) ∧ Ext w w_) := by
  have H := wp.laws_szWarp.math s0 x1 hp
  have hB := Ext.refl w
  refine laws_szWarp.start ?_
  unfold laws_szWarp.vc
  unfold wp.laws_szWarp at H
  refine newBlk (fun g3_ w21 L3 P3 e22 => ?_)
  have O3 := P3
  have L3 := Nat.le_trans hB.size L3
  have hB := ethen hB e22
  refine ⟨_, _, _, (O3.at 1 rfl rfl), ?_⟩
  obtain ⟨hp25, H⟩ := H
  obtain ⟨r23, hr24⟩ : ∃ r_, r_ = M.laws_szFrameS s0.Frames x1 := ⟨_, rfl⟩
  have H := H r23 hr24
  refine (laws_szFrameS.con hp25 hr24 (R0_1.ext hB) hc0_1).mono ?_
  rintro _ w26 ⟨rfl, e27⟩
  have O3 := O3.ext e27
  have hB := ethen hB e27
  refine ⟨r23, rfl, ?_⟩
  refine bcase_mk (fun hc34 => ?_) (fun hc34 => ?_)
  · have H := (bcase_iff.1 H).1 hc34
    obtain rfl := hr.trans H.symm
    exact ⟨rfl, hB⟩
  · have H := (bcase_iff.1 H).2 hc34
    refine ⟨_, _, _, (O3.at 2 rfl rfl), ?_⟩
    obtain ⟨hp30, H⟩ := H
    obtain ⟨r28, hr29⟩ : ∃ r_, r_ = M.laws_szIntS s0.Regs r23 := ⟨_, rfl⟩
    have H := H r28 hr29
    refine (laws_szIntS.con hp30 hr29 (R0_2.ext hB) hc0_2).mono ?_
    rintro _ w31 ⟨rfl, e32⟩
    have O3 := O3.ext e32
    have hB := ethen hB e32
    refine ⟨r28, rfl, ?_⟩
    refine bcase_mk (fun hc33 => ?_) (fun hc33 => ?_)
    · have H := (bcase_iff.1 H).1 hc33
      obtain rfl := hr.trans H.symm
      exact ⟨rfl, hB⟩
    · have H := (bcase_iff.1 H).2 hc33
      obtain rfl := hr.trans H.symm
      exact ⟨rfl, hB⟩

def laws_szWarpS.vc (A0 : Option Addr) (n0 : Nat) (c0 : Nat) (x1 : Int) (w : World) (K : Value → World → Prop) : Prop :=
  bcase (decide ((IntKind.wrap .i64 (x1 - ((n0 : Nat) : Int))) < 0)) (K (.int .i64 (-1)) w) (LoopT (σ := Int × Int × Unit) (fun z21 w22 next23 => bcase (decide (z21.2.1 < ((n0 : Nat) : Int))) (((0 : Int) ≤ z21.2.1 ∧ z21.2.1 < ((n0 : Nat) : Int) ∧ ∃ a24 : Addr, A0 = some a24 ∧ ∃ (n25 : Int), w22.cell? ((a24.add ((z21.2.1.toNat) * 3)).add 0) = some (.int .i64 n25) ∧ ∃ (A26 : Option Addr) (n27 : Nat) (c28 : Nat), w22.cell? ((a24.add ((z21.2.1.toNat) * 3)).add 1) = some (.slice A26 n27 c28) ∧ ∃ (A29 : Option Addr) (n30 : Nat) (c31 : Nat), w22.cell? ((a24.add ((z21.2.1.toNat) * 3)).add 2) = some (.slice A29 n30 c31) ∧ Cll Try.prog 102 #[(.agg #[(.int .i64 n25), (.slice A26 n27 c28), (.slice A29 n30 c31)]), (.int .i64 z21.1)] w22 fun v32 w33 => (∃ (n34 : Int), v32 = (.int .i64 n34) ∧ bcase (decide (n34 < 0)) (K (.int .i64 (-1)) w33) (next23 (n34, (IntKind.wrap .i64 (z21.2.1 + 1)), ()) w33)))) (K (.int .i64 z21.1) w22)) ((IntKind.wrap .i64 (x1 - ((n0 : Nat) : Int))), 0, ()) w)

def laws_szWarpS.ann : Ann := (.seq .l (.seq .l (.seq (.seq .l (.two (.seq .l .l) .l)) (.seq (.seq .l (.one (.loop [(1, .int .i64), (5, .int .i64)] (.seq (.seq .l (.two .l .l)) (.seq (.one (.seq .l (.seq .l (.two (.seq .l .l) .l)))) .l))))) (.seq .l .l)))))

theorem laws_szWarpS.vc_eq (A0 : Option Addr) (n0 : Nat) (c0 : Nat) (x1 : Int) (w : World) (K : Value → World → Prop) : vcF Try.prog Try.f46 laws_szWarpS.ann [(.slice A0 n0 c0), (.int .i64 x1)] K w = laws_szWarpS.vc A0 n0 c0 x1 w K := by kernel_rfl

theorem laws_szWarpS.start {A0 : Option Addr} {n0 : Nat} {c0 : Nat} {x1 : Int} {w : World} {K : Value → World → Prop} (h : laws_szWarpS.vc A0 n0 c0 x1 w K) : Cll Try.prog 46 #[(.slice A0 n0 c0), (.int .i64 x1)] w K :=
  vcF_sound mixed (fn := Try.f46) (by kernel_rfl) (by kernel_rfl) (an := laws_szWarpS.ann) (args := [(.slice A0 n0 c0), (.int .i64 x1)]) (by rw [laws_szWarpS.vc_eq]; exact h)

theorem laws_szWarpS.con {xs0 : List D.Warp} {A0 : Option Addr} {c0 : Nat} {x1 : Int} {r : Int} {w : World} (hp : M.laws_szWarpS_pre xs0 x1) (hr : r = M.laws_szWarpS xs0 x1) (R0 : RowW 99 el148 el3 w A0 xs0) (hc0 : xs0.length ≤ c0) :
    Cll Try.prog 46 #[(.slice A0 xs0.length c0), (.int .i64 x1)] w (fun v_ w_ => v_ = (.int .i64 r) ∧ Ext w w_) := by
  have H := wp.laws_szWarpS.math xs0 x1 hp
  have hB := Ext.refl w
  refine laws_szWarpS.start ?_
  unfold laws_szWarpS.vc
  unfold wp.laws_szWarpS at H
  refine bcase_mk (fun hc58 => ?_) (fun hc58 => ?_)
  · have H := (bcase_iff.1 H).1 hc58
    obtain rfl := hr.trans H.symm
    exact ⟨rfl, hB⟩
  · have H := (bcase_iff.1 H).2 hc58
    obtain ⟨J24, ⟨m56, hJ55⟩, hS25⟩ := H
    refine ⟨fun m_ z_ w_ => ∃ (i21 : Int) (i22 : Int), z_ = (i21, i22, ()) ∧ J24 m_ (i21, i22, ()) ∧ Ext w w_, ⟨m56, (IntKind.wrap .i64 (x1 - ((xs0.length : Nat) : Int))), 0, rfl, hJ55, hB⟩, ?_⟩
    rintro m23 _ w27 ⟨i21, i22, rfl, hJ57, hB⟩
    have H := hS25 m23 _ hJ57
    clear hS25 hJ57
    dsimp only at H ⊢
    refine bcase_mk (fun hc53 => ?_) (fun hc53 => ?_)
    · have H := (bcase_iff.1 H).1 hc53
      obtain ⟨⟨h0_31, h1_32⟩, H⟩ := H
      obtain ⟨a29, ha30, A36, c37, A38, c39, f33, f34, f35, R40, hle42, R41, hle43⟩ := RowW.at R0 h0_31 h1_32
      refine ⟨h0_31, h1_32, a29, ha30, ?_⟩
      refine ⟨_, (Ext.cell hB f33), ?_⟩
      refine ⟨_, _, _, (Ext.cell hB f34), ?_⟩
      refine ⟨_, _, _, (Ext.cell hB f35), ?_⟩
      obtain ⟨hp46, H⟩ := H
      obtain ⟨r44, hr45⟩ : ∃ r_, r_ = M.laws_szWarp (rd xs0 i22) i21 := ⟨_, rfl⟩
      have H := H r44 hr45
      refine (cllArgs (by first | (simp only [List.length_set]; done) | (simp; done)) (laws_szWarp.con hp46 hr45 (R40.ext hB) hle42 (R41.ext hB) hle43)).mono ?_
      rintro _ w47 ⟨rfl, e48⟩
      have hB := ethen hB e48
      refine ⟨r44, rfl, ?_⟩
      refine bcase_mk (fun hc52 => ?_) (fun hc52 => ?_)
      · have H := (bcase_iff.1 H).1 hc52
        obtain rfl := hr.trans H.symm
        exact ⟨rfl, hB⟩
      · have H := (bcase_iff.1 H).2 hc52
        obtain ⟨m49, hm50, hJ51⟩ := H
        exact ⟨m49, hm50, r44, (IntKind.wrap .i64 (i22 + 1)), rfl, hJ51, hB⟩
    · have H := (bcase_iff.1 H).2 hc53
      obtain rfl := hr.trans H.symm
      exact ⟨rfl, hB⟩

def laws_szBlock.vc (A0_0 : Option Addr) (n0_0 : Nat) (c0_0 : Nat) (A0_1 : Option Addr) (n0_1 : Nat) (c0_1 : Nat) (A0_2 : Option Addr) (n0_2 : Nat) (c0_2 : Nat) (x0_3 : Int) (x0_4 : Int) (x1 : Int) (w : World) (K : Value → World → Prop) : Prop :=
  newK w (.cells #[(.slice A0_0 n0_0 c0_0), (.slice A0_1 n0_1 c0_1), (.slice A0_2 n0_2 c0_2), (.int .i64 x0_3), (.int .i64 x0_4)] 26) fun g21 w22 => ∃ (A23 : Option Addr) (n24 : Nat) (c25 : Nat), w22.cell? (((⟨g21, 0, none⟩ : Addr).add 0).add 0) = some (.slice A23 n24 c25) ∧ Cll Try.prog 29 #[(.slice A23 n24 c25), (.int .i64 x1)] w22 fun v26 w27 => (∃ (n28 : Int), v26 = (.int .i64 n28) ∧ bcase (decide (n28 < 0)) (K (.int .i64 (-1)) w27) (∃ (A29 : Option Addr) (n30 : Nat) (c31 : Nat), w27.cell? (((⟨g21, 0, none⟩ : Addr).add 1).add 0) = some (.slice A29 n30 c31) ∧ Cll Try.prog 46 #[(.slice A29 n30 c31), (.int .i64 n28)] w27 fun v32 w33 => (∃ (n34 : Int), v32 = (.int .i64 n34) ∧ bcase (decide (n34 < 0)) (K (.int .i64 (-1)) w33) (∃ (A35 : Option Addr) (n36 : Nat) (c37 : Nat), w33.cell? (((⟨g21, 0, none⟩ : Addr).add 2).add 0) = some (.slice A35 n36 c37) ∧ Cll Try.prog 47 #[(.slice A35 n36 c37), (.int .i64 n34)] w33 fun v38 w39 => (∃ (n40 : Int), v38 = (.int .i64 n40) ∧ bcase (decide (n40 < 0)) (K (.int .i64 (-1)) w39) (K (.int .i64 n40) w39))))))

def laws_szBlock.ann : Ann := (.seq .l (.seq .l (.seq (.seq .l (.two (.seq .l .l) .l)) (.seq .l (.seq (.seq .l (.two (.seq .l .l) .l)) (.seq .l (.seq (.seq .l (.two (.seq .l .l) .l)) (.seq .l .l))))))))

theorem laws_szBlock.vc_eq (A0_0 : Option Addr) (n0_0 : Nat) (c0_0 : Nat) (A0_1 : Option Addr) (n0_1 : Nat) (c0_1 : Nat) (A0_2 : Option Addr) (n0_2 : Nat) (c0_2 : Nat) (x0_3 : Int) (x0_4 : Int) (x1 : Int) (w : World) (K : Value → World → Prop) : vcF Try.prog Try.f11 laws_szBlock.ann [(.agg #[(.slice A0_0 n0_0 c0_0), (.slice A0_1 n0_1 c0_1), (.slice A0_2 n0_2 c0_2), (.int .i64 x0_3), (.int .i64 x0_4)]), (.int .i64 x1)] K w = laws_szBlock.vc A0_0 n0_0 c0_0 A0_1 n0_1 c0_1 A0_2 n0_2 c0_2 x0_3 x0_4 x1 w K := by kernel_rfl

theorem laws_szBlock.start {A0_0 : Option Addr} {n0_0 : Nat} {c0_0 : Nat} {A0_1 : Option Addr} {n0_1 : Nat} {c0_1 : Nat} {A0_2 : Option Addr} {n0_2 : Nat} {c0_2 : Nat} {x0_3 : Int} {x0_4 : Int} {x1 : Int} {w : World} {K : Value → World → Prop} (h : laws_szBlock.vc A0_0 n0_0 c0_0 A0_1 n0_1 c0_1 A0_2 n0_2 c0_2 x0_3 x0_4 x1 w K) : Cll Try.prog 11 #[(.agg #[(.slice A0_0 n0_0 c0_0), (.slice A0_1 n0_1 c0_1), (.slice A0_2 n0_2 c0_2), (.int .i64 x0_3), (.int .i64 x0_4)]), (.int .i64 x1)] w K :=
  vcF_sound mixed (fn := Try.f11) (by kernel_rfl) (by kernel_rfl) (an := laws_szBlock.ann) (args := [(.agg #[(.slice A0_0 n0_0 c0_0), (.slice A0_1 n0_1 c0_1), (.slice A0_2 n0_2 c0_2), (.int .i64 x0_3), (.int .i64 x0_4)]), (.int .i64 x1)]) (by rw [laws_szBlock.vc_eq]; exact h)

theorem laws_szBlock.con {s0 : D.Block} {A0_0 : Option Addr} {c0_0 : Nat} {A0_1 : Option Addr} {c0_1 : Nat} {A0_2 : Option Addr} {c0_2 : Nat} {x1 : Int} {r : Int} {w : World} (hp : M.laws_szBlock_pre s0 x1) (hr : r = M.laws_szBlock s0 x1) (R0_0 : Row el78 w A0_0 s0.Code) (hc0_0 : s0.Code.length ≤ c0_0) (R0_1 : RowW 99 el148 el3 w A0_1 s0.Warps) (hc0_1 : s0.Warps.length ≤ c0_1) (R0_2 : Row el3 w A0_2 s0.Memory) (hc0_2 : s0.Memory.length ≤ c0_2) :
    Cll Try.prog 11 #[(.agg #[(.slice A0_0 s0.Code.length c0_0), (.slice A0_1 s0.Warps.length c0_1), (.slice A0_2 s0.Memory.length c0_2), (.int .i64 s0.Waiting), (.int .i64 s0.Phase)]), (.int .i64 x1)] w (fun v_ w_ => v_ = (.int .i64 r) ∧ Ext w w_) := by
  have H := wp.laws_szBlock.math s0 x1 hp
  have hB := Ext.refl w
  refine laws_szBlock.start ?_
  unfold laws_szBlock.vc
  unfold wp.laws_szBlock at H
  refine newBlk (fun g4_ w21 L4 P4 e22 => ?_)
  have O4 := P4
  have L4 := Nat.le_trans hB.size L4
  have hB := ethen hB e22
  refine ⟨_, _, _, (O4.at 0 rfl rfl), ?_⟩
  obtain ⟨hp25, H⟩ := H
  obtain ⟨r23, hr24⟩ : ∃ r_, r_ = M.laws_szInsS s0.Code x1 := ⟨_, rfl⟩
  have H := H r23 hr24
  refine (laws_szInsS.con hp25 hr24 (R0_0.ext hB) hc0_0).mono ?_
  rintro _ w26 ⟨rfl, e27⟩
  have O4 := O4.ext e27
  have hB := ethen hB e27
  refine ⟨r23, rfl, ?_⟩
  refine bcase_mk (fun hc40 => ?_) (fun hc40 => ?_)
  · have H := (bcase_iff.1 H).1 hc40
    obtain rfl := hr.trans H.symm
    exact ⟨rfl, hB⟩
  · have H := (bcase_iff.1 H).2 hc40
    refine ⟨_, _, _, (O4.at 1 rfl rfl), ?_⟩
    obtain ⟨hp30, H⟩ := H
    obtain ⟨r28, hr29⟩ : ∃ r_, r_ = M.laws_szWarpS s0.Warps r23 := ⟨_, rfl⟩
    have H := H r28 hr29
    refine (laws_szWarpS.con hp30 hr29 (R0_1.ext hB) hc0_1).mono ?_
    rintro _ w31 ⟨rfl, e32⟩
    have O4 := O4.ext e32
    have hB := ethen hB e32
    refine ⟨r28, rfl, ?_⟩
    refine bcase_mk (fun hc39 => ?_) (fun hc39 => ?_)
    · have H := (bcase_iff.1 H).1 hc39
      obtain rfl := hr.trans H.symm
      exact ⟨rfl, hB⟩
    · have H := (bcase_iff.1 H).2 hc39
      refine ⟨_, _, _, (O4.at 2 rfl rfl), ?_⟩
      obtain ⟨hp35, H⟩ := H
      obtain ⟨r33, hr34⟩ : ∃ r_, r_ = M.laws_szIntS s0.Memory r28 := ⟨_, rfl⟩
      have H := H r33 hr34
      refine (laws_szIntS.con hp35 hr34 (R0_2.ext hB) hc0_2).mono ?_
      rintro _ w36 ⟨rfl, e37⟩
      have O4 := O4.ext e37
      have hB := ethen hB e37
      refine ⟨r33, rfl, ?_⟩
      refine bcase_mk (fun hc38 => ?_) (fun hc38 => ?_)
      · have H := (bcase_iff.1 H).1 hc38
        obtain rfl := hr.trans H.symm
        exact ⟨rfl, hB⟩
      · have H := (bcase_iff.1 H).2 hc38
        obtain rfl := hr.trans H.symm
        exact ⟨rfl, hB⟩

def laws_toFrame.vc (x0_0 : Int) (x0_1 : Int) (x0_2 : Int) (w : World) (K : Value → World → Prop) : Prop :=
  newK w (.cells #[(.int .i64 x0_0), (.int .i64 x0_1), (.int .i64 x0_2)] 148) fun g21 w22 => newK w22 (.cells #[(.int .i64 0), (.int .i64 0), (.int .i64 0)] 132) fun g23 w24 => newK w24 (.cells #[(.int .i64 0), (.int .i64 0), (.int .i64 0)] 132) fun g25 w26 => ∃ (n27 : Int), w26.cell? (((⟨g21, 0, none⟩ : Addr).add 0).add 0) = some (.int .i64 n27) ∧ stCells ((⟨g25, 0, none⟩ : Addr).add 0) [(.int .i64 n27)] 0 w26 fun w28 => ∃ (n29 : Int), w28.cell? (((⟨g21, 0, none⟩ : Addr).add 1).add 0) = some (.int .i64 n29) ∧ stCells ((⟨g25, 0, none⟩ : Addr).add 1) [(.int .i64 n29)] 0 w28 fun w30 => ∃ (n31 : Int), w30.cell? (((⟨g21, 0, none⟩ : Addr).add 2).add 0) = some (.int .i64 n31) ∧ stCells ((⟨g25, 0, none⟩ : Addr).add 2) [(.int .i64 n31)] 0 w30 fun w32 => ∃ (n33 : Int), w32.cell? ((⟨g25, 0, none⟩ : Addr).add 0) = some (.int .i64 n33) ∧ ∃ (n34 : Int), w32.cell? ((⟨g25, 0, none⟩ : Addr).add 1) = some (.int .i64 n34) ∧ ∃ (n35 : Int), w32.cell? ((⟨g25, 0, none⟩ : Addr).add 2) = some (.int .i64 n35) ∧ stCells (⟨g23, 0, none⟩ : Addr) [(.int .i64 n33), (.int .i64 n34), (.int .i64 n35)] 0 w32 fun w36 => ∃ (n37 : Int), w36.cell? ((⟨g23, 0, none⟩ : Addr).add 0) = some (.int .i64 n37) ∧ ∃ (n38 : Int), w36.cell? ((⟨g23, 0, none⟩ : Addr).add 1) = some (.int .i64 n38) ∧ ∃ (n39 : Int), w36.cell? ((⟨g23, 0, none⟩ : Addr).add 2) = some (.int .i64 n39) ∧ K (.agg #[(.int .i64 n37), (.int .i64 n38), (.int .i64 n39)]) w36

def laws_toFrame.ann : Ann := (.seq .l (.seq .l (.seq .l (.seq .l (.seq .l (.seq .l .l))))))

theorem laws_toFrame.vc_eq (x0_0 : Int) (x0_1 : Int) (x0_2 : Int) (w : World) (K : Value → World → Prop) : vcF Try.prog Try.f182 laws_toFrame.ann [(.agg #[(.int .i64 x0_0), (.int .i64 x0_1), (.int .i64 x0_2)])] K w = laws_toFrame.vc x0_0 x0_1 x0_2 w K := by kernel_rfl

theorem laws_toFrame.start {x0_0 : Int} {x0_1 : Int} {x0_2 : Int} {w : World} {K : Value → World → Prop} (h : laws_toFrame.vc x0_0 x0_1 x0_2 w K) : Cll Try.prog 182 #[(.agg #[(.int .i64 x0_0), (.int .i64 x0_1), (.int .i64 x0_2)])] w K :=
  vcF_sound mixed (fn := Try.f182) (by kernel_rfl) (by kernel_rfl) (an := laws_toFrame.ann) (args := [(.agg #[(.int .i64 x0_0), (.int .i64 x0_1), (.int .i64 x0_2)])]) (by rw [laws_toFrame.vc_eq]; exact h)

theorem laws_toFrame.con {s0 : D.Frame} {r : D.Frame} {w : World} (hr : r = M.laws_toFrame s0)  :
    Cll Try.prog 182 #[(.agg #[(.int .i64 s0.Pc), (.int .i64 s0.Stop), (.int .i64 s0.Mask)])] w (fun v_ w_ => v_ = (.agg #[(.int .i64 r.Pc), (.int .i64 r.Stop), (.int .i64 r.Mask)]) ∧ Ext w w_) := by
  have H := wp.laws_toFrame.math s0
  have hB := Ext.refl w
  refine laws_toFrame.start ?_
  unfold laws_toFrame.vc
  unfold wp.laws_toFrame at H
  refine newBlk (fun g1_ w21 L1 P1 e22 => ?_)
  have O1 := P1
  have L1 := Nat.le_trans hB.size L1
  have hB := ethen hB e22
  refine newBlk (fun g2_ w23 L2 P2 e24 => ?_)
  have N1_2 := O1.ne L2
  have O1 := O1.ext e24
  have O2 := P2
  have L2 := Nat.le_trans hB.size L2
  have hB := ethen hB e24
  refine newBlk (fun g3_ w25 L3 P3 e26 => ?_)
  have N1_3 := O1.ne L3
  have N2_3 := O2.ne L3
  have O1 := O1.ext e26
  have O2 := O2.ext e26
  have O3 := P3
  have L3 := Nat.le_trans hB.size L3
  have hB := ethen hB e26
  refine ⟨_, (O1.at 0 rfl rfl), ?_⟩
  refine stBlk O3 (o := 0) (cs' := #[(.int .i64 s0.Pc), (.int .i64 0), (.int .i64 0)]) rfl rfl (Nat.le_of_ble_eq_true rfl) rfl (fun w27 P3 e28 => ?_)
  have O1_ := O1.chg e28 N1_3
  have O2_ := O2.chg e28 N2_3
  have O1 := O1_
  have O2 := O2_
  have hB := echg hB e28 L3
  have O3 := P3
  refine ⟨_, (O1.at 1 rfl rfl), ?_⟩
  refine stBlk O3 (o := 1) (cs' := #[(.int .i64 s0.Pc), (.int .i64 s0.Stop), (.int .i64 0)]) rfl rfl (Nat.le_of_ble_eq_true rfl) rfl (fun w29 P3 e30 => ?_)
  have O1_ := O1.chg e30 N1_3
  have O2_ := O2.chg e30 N2_3
  have O1 := O1_
  have O2 := O2_
  have hB := echg hB e30 L3
  have O3 := P3
  refine ⟨_, (O1.at 2 rfl rfl), ?_⟩
  refine stBlk O3 (o := 2) (cs' := #[(.int .i64 s0.Pc), (.int .i64 s0.Stop), (.int .i64 s0.Mask)]) rfl rfl (Nat.le_of_ble_eq_true rfl) rfl (fun w31 P3 e32 => ?_)
  have O1_ := O1.chg e32 N1_3
  have O2_ := O2.chg e32 N2_3
  have O1 := O1_
  have O2 := O2_
  have hB := echg hB e32 L3
  have O3 := P3
  refine ⟨_, (O3.at 0 rfl rfl), ?_⟩
  refine ⟨_, (O3.at 1 rfl rfl), ?_⟩
  refine ⟨_, (O3.at 2 rfl rfl), ?_⟩
  refine stBlk O2 (o := 0) (cs' := #[(.int .i64 s0.Pc), (.int .i64 s0.Stop), (.int .i64 s0.Mask)]) rfl rfl (Nat.le_of_ble_eq_true rfl) rfl (fun w33 P2 e34 => ?_)
  have O1_ := O1.chg e34 N1_2
  have O3_ := O3.chg e34 (N2_3).symm
  have O1 := O1_
  have O3 := O3_
  have hB := echg hB e34 L2
  have O2 := P2
  refine ⟨_, (O2.at 0 rfl rfl), ?_⟩
  refine ⟨_, (O2.at 1 rfl rfl), ?_⟩
  refine ⟨_, (O2.at 2 rfl rfl), ?_⟩
  obtain rfl := hr.trans H.symm
  exact ⟨rfl, hB⟩

def laws_toFrameS.vc (A0 : Option Addr) (n0 : Nat) (c0 : Nat) (w : World) (K : Value → World → Prop) : Prop :=
  vcMake Try.prog 100 ((n0 : Nat) : Int) ((n0 : Nat) : Int) w fun g21 w22 => LoopT (σ := Int × Unit) (fun z23 w24 next25 => bcase (decide (z23.1 < ((n0 : Nat) : Int))) (((0 : Int) ≤ z23.1 ∧ z23.1 < ((n0 : Nat) : Int) ∧ ∃ a26 : Addr, A0 = some a26 ∧ ∃ (n27 : Int), w24.cell? ((a26.add ((z23.1.toNat) * 3)).add 0) = some (.int .i64 n27) ∧ ∃ (n28 : Int), w24.cell? ((a26.add ((z23.1.toNat) * 3)).add 1) = some (.int .i64 n28) ∧ ∃ (n29 : Int), w24.cell? ((a26.add ((z23.1.toNat) * 3)).add 2) = some (.int .i64 n29) ∧ Cll Try.prog 182 #[(.agg #[(.int .i64 n27), (.int .i64 n28), (.int .i64 n29)])] w24 fun v30 w31 => (∃ (n32 : Int), True ∧ ∃ (n33 : Int), True ∧ ∃ (n34 : Int), True ∧ v30 = (.agg #[(.int .i64 n32), (.int .i64 n33), (.int .i64 n34)]) ∧ ((0 : Int) ≤ z23.1 ∧ z23.1 < (((((n0 : Nat) : Int).toNat) : Nat) : Int) ∧ ∃ a35 : Addr, (some (⟨g21, 0, none⟩ : Addr)) = some a35 ∧ stCells (a35.add ((z23.1.toNat) * 3)) [(.int .i64 n32), (.int .i64 n33), (.int .i64 n34)] 0 w31 fun w36 => next25 ((IntKind.wrap .i64 (z23.1 + 1)), ()) w36)))) (K (.slice (some (⟨g21, 0, none⟩ : Addr)) (((n0 : Nat) : Int).toNat) (((n0 : Nat) : Int).toNat)) w24)) (0, ()) w22

def laws_toFrameS.ann : Ann := (.seq .l (.seq .l (.seq (.seq .l (.one (.loop [(4, .int .i64)] (.seq (.seq .l (.two .l .l)) (.seq (.one .l) .l))))) (.seq .l .l))))

theorem laws_toFrameS.vc_eq (A0 : Option Addr) (n0 : Nat) (c0 : Nat) (w : World) (K : Value → World → Prop) : vcF Try.prog Try.f152 laws_toFrameS.ann [(.slice A0 n0 c0)] K w = laws_toFrameS.vc A0 n0 c0 w K := by kernel_rfl

theorem laws_toFrameS.start {A0 : Option Addr} {n0 : Nat} {c0 : Nat} {w : World} {K : Value → World → Prop} (h : laws_toFrameS.vc A0 n0 c0 w K) : Cll Try.prog 152 #[(.slice A0 n0 c0)] w K :=
  vcF_sound mixed (fn := Try.f152) (by kernel_rfl) (by kernel_rfl) (an := laws_toFrameS.ann) (args := [(.slice A0 n0 c0)]) (by rw [laws_toFrameS.vc_eq]; exact h)

theorem laws_toFrameS.con {xs0 : List D.Frame} {A0 : Option Addr} {c0 : Nat} {r : List D.Frame} {w : World} (hp : M.laws_toFrameS_pre xs0) (hr : r = M.laws_toFrameS xs0) (R0 : Row el148 w A0 xs0) (hc0 : xs0.length ≤ c0) :
    Cll Try.prog 152 #[(.slice A0 xs0.length c0)] w (fun v_ w_ => ∃ (A0_ : Option Addr) (c0_ : Nat), v_ = (.slice A0_ r.length c0_) ∧ Own el132 w_ w.heap.size A0_ c0_ r ∧ Ext w w_) := by
  have H := wp.laws_toFrameS.math xs0 hp
  have hB := Ext.refl w
  refine laws_toFrameS.start ?_
  unfold laws_toFrameS.vc
  unfold wp.laws_toFrameS at H
  obtain ⟨⟨h0_24, h1_25⟩, H⟩ := H
  refine makeOwn slt100 h0_24 h1_25 (fun g21 w22 P2 e23 => ?_)
  have O2 := P2.mono hB.size
  have hB := ethen hB e23
  obtain ⟨J54, ⟨m82, hJ81⟩, hS55⟩ := H
  refine ⟨fun m_ z_ w_ => ∃ (i50 : Int) (xs51 : List D.Frame), z_ = (i50, ()) ∧ J54 m_ (i50, xs51, ()) ∧ Ext w w_ ∧ Own el132 w_ w.heap.size (some (⟨g21, 0, none⟩ : Addr)) (((xs0.length : Nat) : Int).toNat) xs51 ∧ (((xs0.length : Nat) : Int).toNat) = xs51.length, ⟨m82, 0, (List.replicate (((xs0.length : Nat) : Int).toNat) (default : D.Frame)), rfl, hJ81, hB, O2, (by first | rfl | assumption | (simp; done) | (simp; omega) | (simp; assumption))⟩, ?_⟩
  rintro m53 _ w57 ⟨i50, xs51, rfl, hJ83, hB, O2, hn52⟩
  have H := hS55 m53 _ hJ83
  clear hS55 hJ83
  dsimp only at H ⊢
  refine bcase_mk (fun hc79 => ?_) (fun hc79 => ?_)
  · have H := (bcase_iff.1 H).1 hc79
    obtain ⟨⟨h0_61, h1_62⟩, H⟩ := H
    obtain ⟨a59, ha60, hat58⟩ := Row.at (R0.ext hB) h0_61 h1_62
    refine ⟨h0_61, h1_62, a59, ha60, ?_⟩
    refine ⟨_, (hat58 0 _ rfl), ?_⟩
    refine ⟨_, (hat58 1 _ rfl), ?_⟩
    refine ⟨_, (hat58 2 _ rfl), ?_⟩
    obtain ⟨r63, hr64⟩ : ∃ r_, r_ = M.laws_toFrame (rd xs0 i50) := ⟨_, rfl⟩
    have H := H r63 hr64
    refine (laws_toFrame.con hr64 ).mono ?_
    rintro _ w66 ⟨rfl, e67⟩
    have O2 := O2.ext e67
    have hB := ethen hB e67
    refine ⟨r63.Pc, trivial, ?_⟩
    refine ⟨r63.Stop, trivial, ?_⟩
    refine ⟨r63.Mask, trivial, ?_⟩
    refine ⟨rfl, ?_⟩
    obtain ⟨⟨h0_71, h1_72⟩, H⟩ := H
    obtain ⟨a69, ha70, hat68⟩ := Row.at O2.row h0_71 h1_72
    refine ⟨h0_71, (by first | exact h1_72 | omega | (simp at h1_72 ⊢; omega)), a69, ha70, ?_⟩
    refine Own.storeAt O2 ha70 h0_71 h1_72 0 [(.int .i64 r63.Pc), (.int .i64 r63.Stop), (.int .i64 r63.Mask)] (⟨r63.Pc, r63.Stop, r63.Mask⟩ : D.Frame) rfl (Nat.le_of_ble_eq_true rfl) rfl (fun w73 P2 e74 hb75 => ?_)
    have hB := echg hB e74 hb75
    have O2 := P2
    obtain ⟨m76, hm77, hJ78⟩ := H
    exact ⟨m76, hm77, (IntKind.wrap .i64 (i50 + 1)), (List.set xs51 (i50.toNat) (⟨r63.Pc, r63.Stop, r63.Mask⟩ : D.Frame)), rfl, hJ78, hB, O2, (by first | rfl | assumption | (simp; done) | (simp; omega) | (simp; assumption))⟩
  · have H := (bcase_iff.1 H).2 hc79
    obtain rfl := hr.trans H.symm
    exact ⟨(some (⟨g21, 0, none⟩ : Addr)), (((xs0.length : Nat) : Int).toNat), (by first | rfl | (simp; done) | (simp; omega) | (simp [*]; done)), (by first | exact O2 | (simp only [List.length_set]; exact O2)), hB⟩

def laws_toWarp.vc (x0_0 : Int) (A0_1 : Option Addr) (n0_1 : Nat) (c0_1 : Nat) (A0_2 : Option Addr) (n0_2 : Nat) (c0_2 : Nat) (w : World) (K : Value → World → Prop) : Prop :=
  newK w (.cells #[(.int .i64 x0_0), (.slice A0_1 n0_1 c0_1), (.slice A0_2 n0_2 c0_2)] 99) fun g21 w22 => newK w22 (.cells #[(.int .i64 0), (.slice none 0 0), (.slice none 0 0)] 102) fun g23 w24 => newK w24 (.cells #[(.int .i64 0), (.slice none 0 0), (.slice none 0 0)] 102) fun g25 w26 => ∃ (n27 : Int), w26.cell? (((⟨g21, 0, none⟩ : Addr).add 0).add 0) = some (.int .i64 n27) ∧ stCells ((⟨g25, 0, none⟩ : Addr).add 0) [(.int .i64 n27)] 0 w26 fun w28 => ∃ (A29 : Option Addr) (n30 : Nat) (c31 : Nat), w28.cell? (((⟨g21, 0, none⟩ : Addr).add 1).add 0) = some (.slice A29 n30 c31) ∧ Cll Try.prog 152 #[(.slice A29 n30 c31)] w28 fun v32 w33 => (∃ (A34 : Option Addr) (n35 : Nat) (c36 : Nat), v32 = (.slice A34 n35 c36) ∧ stCells ((⟨g25, 0, none⟩ : Addr).add 1) [(.slice A34 n35 c36)] 0 w33 fun w37 => ∃ (A38 : Option Addr) (n39 : Nat) (c40 : Nat), w37.cell? (((⟨g21, 0, none⟩ : Addr).add 2).add 0) = some (.slice A38 n39 c40) ∧ Cll Try.prog 23 #[(.slice A38 n39 c40)] w37 fun v41 w42 => (∃ (A43 : Option Addr) (n44 : Nat) (c45 : Nat), v41 = (.slice A43 n44 c45) ∧ stCells ((⟨g25, 0, none⟩ : Addr).add 2) [(.slice A43 n44 c45)] 0 w42 fun w46 => ∃ (n47 : Int), w46.cell? ((⟨g25, 0, none⟩ : Addr).add 0) = some (.int .i64 n47) ∧ ∃ (A48 : Option Addr) (n49 : Nat) (c50 : Nat), w46.cell? ((⟨g25, 0, none⟩ : Addr).add 1) = some (.slice A48 n49 c50) ∧ ∃ (A51 : Option Addr) (n52 : Nat) (c53 : Nat), w46.cell? ((⟨g25, 0, none⟩ : Addr).add 2) = some (.slice A51 n52 c53) ∧ stCells (⟨g23, 0, none⟩ : Addr) [(.int .i64 n47), (.slice A48 n49 c50), (.slice A51 n52 c53)] 0 w46 fun w54 => ∃ (n55 : Int), w54.cell? ((⟨g23, 0, none⟩ : Addr).add 0) = some (.int .i64 n55) ∧ ∃ (A56 : Option Addr) (n57 : Nat) (c58 : Nat), w54.cell? ((⟨g23, 0, none⟩ : Addr).add 1) = some (.slice A56 n57 c58) ∧ ∃ (A59 : Option Addr) (n60 : Nat) (c61 : Nat), w54.cell? ((⟨g23, 0, none⟩ : Addr).add 2) = some (.slice A59 n60 c61) ∧ K (.agg #[(.int .i64 n55), (.slice A56 n57 c58), (.slice A59 n60 c61)]) w54))

def laws_toWarp.ann : Ann := (.seq .l (.seq .l (.seq .l (.seq .l (.seq .l (.seq .l .l))))))

theorem laws_toWarp.vc_eq (x0_0 : Int) (A0_1 : Option Addr) (n0_1 : Nat) (c0_1 : Nat) (A0_2 : Option Addr) (n0_2 : Nat) (c0_2 : Nat) (w : World) (K : Value → World → Prop) : vcF Try.prog Try.f107 laws_toWarp.ann [(.agg #[(.int .i64 x0_0), (.slice A0_1 n0_1 c0_1), (.slice A0_2 n0_2 c0_2)])] K w = laws_toWarp.vc x0_0 A0_1 n0_1 c0_1 A0_2 n0_2 c0_2 w K := by kernel_rfl

theorem laws_toWarp.start {x0_0 : Int} {A0_1 : Option Addr} {n0_1 : Nat} {c0_1 : Nat} {A0_2 : Option Addr} {n0_2 : Nat} {c0_2 : Nat} {w : World} {K : Value → World → Prop} (h : laws_toWarp.vc x0_0 A0_1 n0_1 c0_1 A0_2 n0_2 c0_2 w K) : Cll Try.prog 107 #[(.agg #[(.int .i64 x0_0), (.slice A0_1 n0_1 c0_1), (.slice A0_2 n0_2 c0_2)])] w K :=
  vcF_sound mixed (fn := Try.f107) (by kernel_rfl) (by kernel_rfl) (an := laws_toWarp.ann) (args := [(.agg #[(.int .i64 x0_0), (.slice A0_1 n0_1 c0_1), (.slice A0_2 n0_2 c0_2)])]) (by rw [laws_toWarp.vc_eq]; exact h)

theorem laws_toWarp.con {s0 : D.Warp} {A0_1 : Option Addr} {c0_1 : Nat} {A0_2 : Option Addr} {c0_2 : Nat} {r : D.Warp} {w : World} (hp : M.laws_toWarp_pre s0) (hr : r = M.laws_toWarp s0) (R0_1 : Row el148 w A0_1 s0.Frames) (hc0_1 : s0.Frames.length ≤ c0_1) (R0_2 : Row el3 w A0_2 s0.Regs) (hc0_2 : s0.Regs.length ≤ c0_2) :
    Cll Try.prog 107 #[(.agg #[(.int .i64 s0.Number), (.slice A0_1 s0.Frames.length c0_1), (.slice A0_2 s0.Regs.length c0_2)])] w (fun v_ w_ => ∃ (A0_ : Option Addr) (c0_ : Nat) (A1_ : Option Addr) (c1_ : Nat), v_ = (.agg #[(.int .i64 r.Number), (.slice A0_ r.Frames.length c0_), (.slice A1_ r.Regs.length c1_)]) ∧ Own el132 w_ w.heap.size A0_ c0_ r.Frames ∧ Own el3 w_ w.heap.size A1_ c1_ r.Regs ∧ Ext w w_) := by
  have H := wp.laws_toWarp.math s0 hp
  have hB := Ext.refl w
  refine laws_toWarp.start ?_
  unfold laws_toWarp.vc
  unfold wp.laws_toWarp at H
  refine newBlk (fun g3_ w21 L3 P3 e22 => ?_)
  have O3 := P3
  have L3 := Nat.le_trans hB.size L3
  have hB := ethen hB e22
  refine newBlk (fun g4_ w23 L4 P4 e24 => ?_)
  have N3_4 := O3.ne L4
  have O3 := O3.ext e24
  have O4 := P4
  have L4 := Nat.le_trans hB.size L4
  have hB := ethen hB e24
  refine newBlk (fun g5_ w25 L5 P5 e26 => ?_)
  have N3_5 := O3.ne L5
  have N4_5 := O4.ne L5
  have O3 := O3.ext e26
  have O4 := O4.ext e26
  have O5 := P5
  have L5 := Nat.le_trans hB.size L5
  have hB := ethen hB e26
  refine ⟨_, (O3.at 0 rfl rfl), ?_⟩
  refine stBlk O5 (o := 0) (cs' := #[(.int .i64 s0.Number), (.slice none 0 0), (.slice none 0 0)]) rfl rfl (Nat.le_of_ble_eq_true rfl) rfl (fun w27 P5 e28 => ?_)
  have O3_ := O3.chg e28 N3_5
  have O4_ := O4.chg e28 N4_5
  have O3 := O3_
  have O4 := O4_
  have hB := echg hB e28 L5
  have O5 := P5
  refine ⟨_, _, _, (O3.at 1 rfl rfl), ?_⟩
  obtain ⟨hp31, H⟩ := H
  obtain ⟨r29, hr30⟩ : ∃ r_, r_ = M.laws_toFrameS s0.Frames := ⟨_, rfl⟩
  have H := H r29 hr30
  refine (laws_toFrameS.con hp31 hr30 (R0_1.ext hB) hc0_1).mono ?_
  rintro _ w32 ⟨A34, c35, rfl, P6, e33⟩
  have N6_3 := P6.apart_old O3.lt
  have N6_4 := P6.apart_old O4.lt
  have N6_5 := P6.apart_old O5.lt
  have O3 := O3.ext e33
  have O4 := O4.ext e33
  have O5 := O5.ext e33
  have O6 := P6.mono hB.size
  have hB := ethen hB e33
  refine ⟨A34, r29.length, c35, rfl, ?_⟩
  refine stBlk O5 (o := 1) (cs' := #[(.int .i64 s0.Number), (.slice A34 r29.length c35), (.slice none 0 0)]) rfl rfl (Nat.le_of_ble_eq_true rfl) rfl (fun w36 P5 e37 => ?_)
  have O3_ := O3.chg e37 N3_5
  have O4_ := O4.chg e37 N4_5
  have O6_ := O6.chg e37 N6_5
  have O3 := O3_
  have O4 := O4_
  have O6 := O6_
  have hB := echg hB e37 L5
  have O5 := P5
  refine ⟨_, _, _, (O3.at 2 rfl rfl), ?_⟩
  obtain ⟨hp40, H⟩ := H
  obtain ⟨r38, hr39⟩ : ∃ r_, r_ = M.laws_toIntS s0.Regs := ⟨_, rfl⟩
  have H := H r38 hr39
  refine (laws_toIntS.con hp40 hr39 (R0_2.ext hB) hc0_2).mono ?_
  rintro _ w41 ⟨A43, c44, rfl, P7, e42⟩
  have N7_3 := P7.apart_old O3.lt
  have N7_4 := P7.apart_old O4.lt
  have N7_5 := P7.apart_old O5.lt
  have N6_7 := Own.apart2_new O6 P7 (Nat.le_refl _)
  have O3 := O3.ext e42
  have O4 := O4.ext e42
  have O5 := O5.ext e42
  have O6 := O6.ext e42
  have O7 := P7.mono hB.size
  have hB := ethen hB e42
  refine ⟨A43, r38.length, c44, rfl, ?_⟩
  refine stBlk O5 (o := 2) (cs' := #[(.int .i64 s0.Number), (.slice A34 r29.length c35), (.slice A43 r38.length c44)]) rfl rfl (Nat.le_of_ble_eq_true rfl) rfl (fun w45 P5 e46 => ?_)
  have O3_ := O3.chg e46 N3_5
  have O4_ := O4.chg e46 N4_5
  have O6_ := O6.chg e46 N6_5
  have O7_ := O7.chg e46 N7_5
  have O3 := O3_
  have O4 := O4_
  have O6 := O6_
  have O7 := O7_
  have hB := echg hB e46 L5
  have O5 := P5
  refine ⟨_, (O5.at 0 rfl rfl), ?_⟩
  refine ⟨_, _, _, (O5.at 1 rfl rfl), ?_⟩
  refine ⟨_, _, _, (O5.at 2 rfl rfl), ?_⟩
  refine stBlk O4 (o := 0) (cs' := #[(.int .i64 s0.Number), (.slice A34 r29.length c35), (.slice A43 r38.length c44)]) rfl rfl (Nat.le_of_ble_eq_true rfl) rfl (fun w47 P4 e48 => ?_)
  have O3_ := O3.chg e48 N3_4
  have O5_ := O5.chg e48 (N4_5).symm
  have O6_ := O6.chg e48 N6_4
  have O7_ := O7.chg e48 N7_4
  have O3 := O3_
  have O5 := O5_
  have O6 := O6_
  have O7 := O7_
  have hB := echg hB e48 L4
  have O4 := P4
  refine ⟨_, (O4.at 0 rfl rfl), ?_⟩
  refine ⟨_, _, _, (O4.at 1 rfl rfl), ?_⟩
  refine ⟨_, _, _, (O4.at 2 rfl rfl), ?_⟩
  obtain rfl := hr.trans H.symm
  exact ⟨A34, c35, A43, c44, rfl, O6, O7, hB⟩

def laws_toWarpS.vc (A0 : Option Addr) (n0 : Nat) (c0 : Nat) (w : World) (K : Value → World → Prop) : Prop :=
  vcMake Try.prog 30 ((n0 : Nat) : Int) ((n0 : Nat) : Int) w fun g21 w22 => LoopT (σ := Int × Unit) (fun z23 w24 next25 => bcase (decide (z23.1 < ((n0 : Nat) : Int))) (((0 : Int) ≤ z23.1 ∧ z23.1 < ((n0 : Nat) : Int) ∧ ∃ a26 : Addr, A0 = some a26 ∧ ∃ (n27 : Int), w24.cell? ((a26.add ((z23.1.toNat) * 3)).add 0) = some (.int .i64 n27) ∧ ∃ (A28 : Option Addr) (n29 : Nat) (c30 : Nat), w24.cell? ((a26.add ((z23.1.toNat) * 3)).add 1) = some (.slice A28 n29 c30) ∧ ∃ (A31 : Option Addr) (n32 : Nat) (c33 : Nat), w24.cell? ((a26.add ((z23.1.toNat) * 3)).add 2) = some (.slice A31 n32 c33) ∧ Cll Try.prog 107 #[(.agg #[(.int .i64 n27), (.slice A28 n29 c30), (.slice A31 n32 c33)])] w24 fun v34 w35 => (∃ (n36 : Int), True ∧ ∃ (A37 : Option Addr) (n38 : Nat) (c39 : Nat), True ∧ ∃ (A40 : Option Addr) (n41 : Nat) (c42 : Nat), True ∧ v34 = (.agg #[(.int .i64 n36), (.slice A37 n38 c39), (.slice A40 n41 c42)]) ∧ ((0 : Int) ≤ z23.1 ∧ z23.1 < (((((n0 : Nat) : Int).toNat) : Nat) : Int) ∧ ∃ a43 : Addr, (some (⟨g21, 0, none⟩ : Addr)) = some a43 ∧ stCells (a43.add ((z23.1.toNat) * 3)) [(.int .i64 n36), (.slice A37 n38 c39), (.slice A40 n41 c42)] 0 w35 fun w44 => next25 ((IntKind.wrap .i64 (z23.1 + 1)), ()) w44)))) (K (.slice (some (⟨g21, 0, none⟩ : Addr)) (((n0 : Nat) : Int).toNat) (((n0 : Nat) : Int).toNat)) w24)) (0, ()) w22

def laws_toWarpS.ann : Ann := (.seq .l (.seq .l (.seq (.seq .l (.one (.loop [(4, .int .i64)] (.seq (.seq .l (.two .l .l)) (.seq (.one .l) .l))))) (.seq .l .l))))

theorem laws_toWarpS.vc_eq (A0 : Option Addr) (n0 : Nat) (c0 : Nat) (w : World) (K : Value → World → Prop) : vcF Try.prog Try.f50 laws_toWarpS.ann [(.slice A0 n0 c0)] K w = laws_toWarpS.vc A0 n0 c0 w K := by kernel_rfl

theorem laws_toWarpS.start {A0 : Option Addr} {n0 : Nat} {c0 : Nat} {w : World} {K : Value → World → Prop} (h : laws_toWarpS.vc A0 n0 c0 w K) : Cll Try.prog 50 #[(.slice A0 n0 c0)] w K :=
  vcF_sound mixed (fn := Try.f50) (by kernel_rfl) (by kernel_rfl) (an := laws_toWarpS.ann) (args := [(.slice A0 n0 c0)]) (by rw [laws_toWarpS.vc_eq]; exact h)

theorem laws_toWarpS.con {xs0 : List D.Warp} {A0 : Option Addr} {c0 : Nat} {r : List D.Warp} {w : World} (hp : M.laws_toWarpS_pre xs0) (hr : r = M.laws_toWarpS xs0) (R0 : RowW 99 el148 el3 w A0 xs0) (hc0 : xs0.length ≤ c0) :
    Cll Try.prog 50 #[(.slice A0 xs0.length c0)] w (fun v_ w_ => ∃ (A0_ : Option Addr) (c0_ : Nat) (F0_ : Nat → Prop), v_ = (.slice A0_ r.length c0_) ∧ OwnW 102 el132 el3 w_ w.heap.size F0_ A0_ c0_ r ∧ Ext w w_) := by
  have H := wp.laws_toWarpS.math xs0 hp
  have hB := Ext.refl w
  refine laws_toWarpS.start ?_
  unfold laws_toWarpS.vc
  unfold wp.laws_toWarpS at H
  obtain ⟨⟨h0_24, h1_25⟩, H⟩ := H
  refine makeOwn slt30 h0_24 h1_25 (fun g21 w22 P2 e23 => ?_)
  have P2 : OwnW 102 el132 el3 _ _ _ _ _ _ := OwnW.made P2
  have O2 := P2.mono hB.size
  have hB := ethen hB e23
  obtain ⟨J70, ⟨m113, hJ112⟩, hS71⟩ := H
  refine ⟨fun m_ z_ w_ => ∃ (i65 : Int) (xs66 : List D.Warp) (F67 : Nat → Prop), z_ = (i65, ()) ∧ J70 m_ (i65, xs66, ()) ∧ Ext w w_ ∧ OwnW 102 el132 el3 w_ w.heap.size F67 (some (⟨g21, 0, none⟩ : Addr)) (((xs0.length : Nat) : Int).toNat) xs66 ∧ (((xs0.length : Nat) : Int).toNat) = xs66.length, ⟨m113, 0, (List.replicate (((xs0.length : Nat) : Int).toNat) (default : D.Warp)), (fun _ => False), rfl, hJ112, hB, O2, (by first | rfl | assumption | (simp; done) | (simp; omega) | (simp; assumption))⟩, ?_⟩
  rintro m69 _ w73 ⟨i65, xs66, F67, rfl, hJ114, hB, O2, hn68⟩
  have H := hS71 m69 _ hJ114
  clear hS71 hJ114
  dsimp only at H ⊢
  refine bcase_mk (fun hc110 => ?_) (fun hc110 => ?_)
  · have H := (bcase_iff.1 H).1 hc110
    obtain ⟨⟨h0_77, h1_78⟩, H⟩ := H
    obtain ⟨a75, ha76, A82, c83, A84, c85, f79, f80, f81, R86, hle88, R87, hle89⟩ := RowW.at R0 h0_77 h1_78
    refine ⟨h0_77, h1_78, a75, ha76, ?_⟩
    refine ⟨_, (Ext.cell hB f79), ?_⟩
    refine ⟨_, _, _, (Ext.cell hB f80), ?_⟩
    refine ⟨_, _, _, (Ext.cell hB f81), ?_⟩
    obtain ⟨hp92, H⟩ := H
    obtain ⟨r90, hr91⟩ : ∃ r_, r_ = M.laws_toWarp (rd xs0 i65) := ⟨_, rfl⟩
    have H := H r90 hr91
    refine (cllArgs (by first | (simp only [List.length_set]; done) | (simp; done)) (laws_toWarp.con hp92 hr91 (R86.ext hB) hle88 (R87.ext hB) hle89)).mono ?_
    rintro _ w93 ⟨A95, c96, A97, c98, rfl, P9, P10, e94⟩
    have N2_9 := O2.dis_new P9 (Nat.le_refl _)
    have N2_10 := O2.dis_new P10 (Nat.le_refl _)
    have O2 := O2.ext e94
    have O9 := P9.mono hB.size
    have O10 := P10.mono hB.size
    have hB := ethen hB e94
    refine ⟨r90.Number, trivial, ?_⟩
    refine ⟨A95, r90.Frames.length, c96, trivial, ?_⟩
    refine ⟨A97, r90.Regs.length, c98, trivial, ?_⟩
    refine ⟨rfl, ?_⟩
    obtain ⟨⟨h0_102, h1_103⟩, H⟩ := H
    obtain ⟨a100, ha101, _⟩ := RowW.at O2.row h0_102 h1_103
    refine ⟨h0_102, (by first | exact h1_103 | omega | (simp at h1_103 ⊢; omega)), a100, ha101, ?_⟩
    have X2_9 := N2_9
    have X2_10 := N2_10
    refine OwnW.storeAt O2 ha101 h0_102 h1_103 r90 O9 O10 (by decide) (by decide) X2_9 X2_10 (fun w104 P2 e105 hb106 => ?_)
    have O9_ := O9.chg e105 (dis_apart N2_9 (Or.inl ⟨_, ha101, rfl⟩))
    have O10_ := O10.chg e105 (dis_apart N2_10 (Or.inl ⟨_, ha101, rfl⟩))
    have O9 := O9_
    have O10 := O10_
    have hB := echg hB e105 hb106
    have O2 := P2
    obtain ⟨m107, hm108, hJ109⟩ := H
    exact ⟨m107, hm108, (IntKind.wrap .i64 (i65 + 1)), (List.set xs66 (i65.toNat) r90), (fun g => F67 g ∨ InB A95 g ∨ InB A97 g), rfl, hJ109, hB, O2, (by first | rfl | assumption | (simp; done) | (simp; omega) | (simp; assumption))⟩
  · have H := (bcase_iff.1 H).2 hc110
    obtain rfl := hr.trans H.symm
    exact ⟨(some (⟨g21, 0, none⟩ : Addr)), (((xs0.length : Nat) : Int).toNat), F67, (by first | rfl | (simp; done) | (simp; omega) | (simp [*]; done)), (by first | exact O2 | (simp only [List.length_set]; exact O2)), hB⟩

def laws_toBlock.vc (A0_0 : Option Addr) (n0_0 : Nat) (c0_0 : Nat) (A0_1 : Option Addr) (n0_1 : Nat) (c0_1 : Nat) (A0_2 : Option Addr) (n0_2 : Nat) (c0_2 : Nat) (x0_3 : Int) (x0_4 : Int) (w : World) (K : Value → World → Prop) : Prop :=
  newK w (.cells #[(.slice A0_0 n0_0 c0_0), (.slice A0_1 n0_1 c0_1), (.slice A0_2 n0_2 c0_2), (.int .i64 x0_3), (.int .i64 x0_4)] 26) fun g21 w22 => newK w22 (.cells #[(.slice none 0 0), (.slice none 0 0), (.slice none 0 0), (.int .i64 0), (.int .i64 0)] 32) fun g23 w24 => newK w24 (.cells #[(.slice none 0 0), (.slice none 0 0), (.slice none 0 0), (.int .i64 0), (.int .i64 0)] 32) fun g25 w26 => ∃ (A27 : Option Addr) (n28 : Nat) (c29 : Nat), w26.cell? (((⟨g21, 0, none⟩ : Addr).add 0).add 0) = some (.slice A27 n28 c29) ∧ Cll Try.prog 31 #[(.slice A27 n28 c29)] w26 fun v30 w31 => (∃ (A32 : Option Addr) (n33 : Nat) (c34 : Nat), v30 = (.slice A32 n33 c34) ∧ stCells ((⟨g25, 0, none⟩ : Addr).add 0) [(.slice A32 n33 c34)] 0 w31 fun w35 => ∃ (A36 : Option Addr) (n37 : Nat) (c38 : Nat), w35.cell? (((⟨g21, 0, none⟩ : Addr).add 1).add 0) = some (.slice A36 n37 c38) ∧ Cll Try.prog 50 #[(.slice A36 n37 c38)] w35 fun v39 w40 => (∃ (A41 : Option Addr) (n42 : Nat) (c43 : Nat), v39 = (.slice A41 n42 c43) ∧ stCells ((⟨g25, 0, none⟩ : Addr).add 1) [(.slice A41 n42 c43)] 0 w40 fun w44 => ∃ (A45 : Option Addr) (n46 : Nat) (c47 : Nat), w44.cell? (((⟨g21, 0, none⟩ : Addr).add 2).add 0) = some (.slice A45 n46 c47) ∧ Cll Try.prog 23 #[(.slice A45 n46 c47)] w44 fun v48 w49 => (∃ (A50 : Option Addr) (n51 : Nat) (c52 : Nat), v48 = (.slice A50 n51 c52) ∧ stCells ((⟨g25, 0, none⟩ : Addr).add 2) [(.slice A50 n51 c52)] 0 w49 fun w53 => ∃ (n54 : Int), w53.cell? (((⟨g21, 0, none⟩ : Addr).add 3).add 0) = some (.int .i64 n54) ∧ stCells ((⟨g25, 0, none⟩ : Addr).add 3) [(.int .i64 n54)] 0 w53 fun w55 => ∃ (n56 : Int), w55.cell? (((⟨g21, 0, none⟩ : Addr).add 4).add 0) = some (.int .i64 n56) ∧ stCells ((⟨g25, 0, none⟩ : Addr).add 4) [(.int .i64 n56)] 0 w55 fun w57 => ∃ (A58 : Option Addr) (n59 : Nat) (c60 : Nat), w57.cell? ((⟨g25, 0, none⟩ : Addr).add 0) = some (.slice A58 n59 c60) ∧ ∃ (A61 : Option Addr) (n62 : Nat) (c63 : Nat), w57.cell? ((⟨g25, 0, none⟩ : Addr).add 1) = some (.slice A61 n62 c63) ∧ ∃ (A64 : Option Addr) (n65 : Nat) (c66 : Nat), w57.cell? ((⟨g25, 0, none⟩ : Addr).add 2) = some (.slice A64 n65 c66) ∧ ∃ (n67 : Int), w57.cell? ((⟨g25, 0, none⟩ : Addr).add 3) = some (.int .i64 n67) ∧ ∃ (n68 : Int), w57.cell? ((⟨g25, 0, none⟩ : Addr).add 4) = some (.int .i64 n68) ∧ stCells (⟨g23, 0, none⟩ : Addr) [(.slice A58 n59 c60), (.slice A61 n62 c63), (.slice A64 n65 c66), (.int .i64 n67), (.int .i64 n68)] 0 w57 fun w69 => ∃ (A70 : Option Addr) (n71 : Nat) (c72 : Nat), w69.cell? ((⟨g23, 0, none⟩ : Addr).add 0) = some (.slice A70 n71 c72) ∧ ∃ (A73 : Option Addr) (n74 : Nat) (c75 : Nat), w69.cell? ((⟨g23, 0, none⟩ : Addr).add 1) = some (.slice A73 n74 c75) ∧ ∃ (A76 : Option Addr) (n77 : Nat) (c78 : Nat), w69.cell? ((⟨g23, 0, none⟩ : Addr).add 2) = some (.slice A76 n77 c78) ∧ ∃ (n79 : Int), w69.cell? ((⟨g23, 0, none⟩ : Addr).add 3) = some (.int .i64 n79) ∧ ∃ (n80 : Int), w69.cell? ((⟨g23, 0, none⟩ : Addr).add 4) = some (.int .i64 n80) ∧ K (.agg #[(.slice A70 n71 c72), (.slice A73 n74 c75), (.slice A76 n77 c78), (.int .i64 n79), (.int .i64 n80)]) w69)))

def laws_toBlock.ann : Ann := (.seq .l (.seq .l (.seq .l (.seq .l (.seq .l (.seq .l (.seq .l (.seq .l .l))))))))

theorem laws_toBlock.vc_eq (A0_0 : Option Addr) (n0_0 : Nat) (c0_0 : Nat) (A0_1 : Option Addr) (n0_1 : Nat) (c0_1 : Nat) (A0_2 : Option Addr) (n0_2 : Nat) (c0_2 : Nat) (x0_3 : Int) (x0_4 : Int) (w : World) (K : Value → World → Prop) : vcF Try.prog Try.f13 laws_toBlock.ann [(.agg #[(.slice A0_0 n0_0 c0_0), (.slice A0_1 n0_1 c0_1), (.slice A0_2 n0_2 c0_2), (.int .i64 x0_3), (.int .i64 x0_4)])] K w = laws_toBlock.vc A0_0 n0_0 c0_0 A0_1 n0_1 c0_1 A0_2 n0_2 c0_2 x0_3 x0_4 w K := by kernel_rfl

theorem laws_toBlock.start {A0_0 : Option Addr} {n0_0 : Nat} {c0_0 : Nat} {A0_1 : Option Addr} {n0_1 : Nat} {c0_1 : Nat} {A0_2 : Option Addr} {n0_2 : Nat} {c0_2 : Nat} {x0_3 : Int} {x0_4 : Int} {w : World} {K : Value → World → Prop} (h : laws_toBlock.vc A0_0 n0_0 c0_0 A0_1 n0_1 c0_1 A0_2 n0_2 c0_2 x0_3 x0_4 w K) : Cll Try.prog 13 #[(.agg #[(.slice A0_0 n0_0 c0_0), (.slice A0_1 n0_1 c0_1), (.slice A0_2 n0_2 c0_2), (.int .i64 x0_3), (.int .i64 x0_4)])] w K :=
  vcF_sound mixed (fn := Try.f13) (by kernel_rfl) (by kernel_rfl) (an := laws_toBlock.ann) (args := [(.agg #[(.slice A0_0 n0_0 c0_0), (.slice A0_1 n0_1 c0_1), (.slice A0_2 n0_2 c0_2), (.int .i64 x0_3), (.int .i64 x0_4)])]) (by rw [laws_toBlock.vc_eq]; exact h)

theorem laws_toBlock.con {s0 : D.Block} {A0_0 : Option Addr} {c0_0 : Nat} {A0_1 : Option Addr} {c0_1 : Nat} {A0_2 : Option Addr} {c0_2 : Nat} {r : D.Block} {w : World} (hp : M.laws_toBlock_pre s0) (hr : r = M.laws_toBlock s0) (R0_0 : Row el78 w A0_0 s0.Code) (hc0_0 : s0.Code.length ≤ c0_0) (R0_1 : RowW 99 el148 el3 w A0_1 s0.Warps) (hc0_1 : s0.Warps.length ≤ c0_1) (R0_2 : Row el3 w A0_2 s0.Memory) (hc0_2 : s0.Memory.length ≤ c0_2) :
    Cll Try.prog 13 #[(.agg #[(.slice A0_0 s0.Code.length c0_0), (.slice A0_1 s0.Warps.length c0_1), (.slice A0_2 s0.Memory.length c0_2), (.int .i64 s0.Waiting), (.int .i64 s0.Phase)])] w (fun v_ w_ => ∃ (A0_ : Option Addr) (c0_ : Nat) (A1_ : Option Addr) (c1_ : Nat) (F1_ : Nat → Prop) (A2_ : Option Addr) (c2_ : Nat), v_ = (.agg #[(.slice A0_ r.Code.length c0_), (.slice A1_ r.Warps.length c1_), (.slice A2_ r.Memory.length c2_), (.int .i64 r.Waiting), (.int .i64 r.Phase)]) ∧ Own el76 w_ w.heap.size A0_ c0_ r.Code ∧ OwnW 102 el132 el3 w_ w.heap.size F1_ A1_ c1_ r.Warps ∧ Own el3 w_ w.heap.size A2_ c2_ r.Memory ∧ Dis (InW A1_ F1_) (InB A2_) ∧ Ext w w_) := by
  have H := wp.laws_toBlock.math s0 hp
  have hB := Ext.refl w
  refine laws_toBlock.start ?_
  unfold laws_toBlock.vc
  unfold wp.laws_toBlock at H
  refine newBlk (fun g4_ w21 L4 P4 e22 => ?_)
  have O4 := P4
  have L4 := Nat.le_trans hB.size L4
  have hB := ethen hB e22
  refine newBlk (fun g5_ w23 L5 P5 e24 => ?_)
  have N4_5 := O4.ne L5
  have O4 := O4.ext e24
  have O5 := P5
  have L5 := Nat.le_trans hB.size L5
  have hB := ethen hB e24
  refine newBlk (fun g6_ w25 L6 P6 e26 => ?_)
  have N4_6 := O4.ne L6
  have N5_6 := O5.ne L6
  have O4 := O4.ext e26
  have O5 := O5.ext e26
  have O6 := P6
  have L6 := Nat.le_trans hB.size L6
  have hB := ethen hB e26
  refine ⟨_, _, _, (O4.at 0 rfl rfl), ?_⟩
  obtain ⟨hp29, H⟩ := H
  obtain ⟨r27, hr28⟩ : ∃ r_, r_ = M.laws_toInsS s0.Code := ⟨_, rfl⟩
  have H := H r27 hr28
  refine (laws_toInsS.con hp29 hr28 (R0_0.ext hB) hc0_0).mono ?_
  rintro _ w30 ⟨A32, c33, rfl, P7, e31⟩
  have N7_4 := P7.apart_old O4.lt
  have N7_5 := P7.apart_old O5.lt
  have N7_6 := P7.apart_old O6.lt
  have O4 := O4.ext e31
  have O5 := O5.ext e31
  have O6 := O6.ext e31
  have O7 := P7.mono hB.size
  have hB := ethen hB e31
  refine ⟨A32, r27.length, c33, rfl, ?_⟩
  refine stBlk O6 (o := 0) (cs' := #[(.slice A32 r27.length c33), (.slice none 0 0), (.slice none 0 0), (.int .i64 0), (.int .i64 0)]) rfl rfl (Nat.le_of_ble_eq_true rfl) rfl (fun w34 P6 e35 => ?_)
  have O4_ := O4.chg e35 N4_6
  have O5_ := O5.chg e35 N5_6
  have O7_ := O7.chg e35 N7_6
  have O4 := O4_
  have O5 := O5_
  have O7 := O7_
  have hB := echg hB e35 L6
  have O6 := P6
  refine ⟨_, _, _, (O4.at 1 rfl rfl), ?_⟩
  obtain ⟨hp38, H⟩ := H
  obtain ⟨r36, hr37⟩ : ∃ r_, r_ = M.laws_toWarpS s0.Warps := ⟨_, rfl⟩
  have H := H r36 hr37
  refine (laws_toWarpS.con hp38 hr37 (R0_1.ext hB) hc0_1).mono ?_
  rintro _ w39 ⟨A41, c42, F43, rfl, P8, e40⟩
  have N8_4 := P8.new_disbox O4 (Nat.le_refl _)
  have N8_5 := P8.new_disbox O5 (Nat.le_refl _)
  have N8_6 := P8.new_disbox O6 (Nat.le_refl _)
  have N8_7 := P8.new_dis O7 (Nat.le_refl _)
  have O4 := O4.ext e40
  have O5 := O5.ext e40
  have O6 := O6.ext e40
  have O7 := O7.ext e40
  have O8 := P8.mono hB.size
  have hB := ethen hB e40
  refine ⟨A41, r36.length, c42, rfl, ?_⟩
  refine stBlk O6 (o := 1) (cs' := #[(.slice A32 r27.length c33), (.slice A41 r36.length c42), (.slice none 0 0), (.int .i64 0), (.int .i64 0)]) rfl rfl (Nat.le_of_ble_eq_true rfl) rfl (fun w44 P6 e45 => ?_)
  have O4_ := O4.chg e45 N4_6
  have O5_ := O5.chg e45 N5_6
  have O7_ := O7.chg e45 N7_6
  have O8_ := O8.chg e45 N8_6
  have O4 := O4_
  have O5 := O5_
  have O7 := O7_
  have O8 := O8_
  have hB := echg hB e45 L6
  have O6 := P6
  refine ⟨_, _, _, (O4.at 2 rfl rfl), ?_⟩
  obtain ⟨hp48, H⟩ := H
  obtain ⟨r46, hr47⟩ : ∃ r_, r_ = M.laws_toIntS s0.Memory := ⟨_, rfl⟩
  have H := H r46 hr47
  refine (laws_toIntS.con hp48 hr47 (R0_2.ext hB) hc0_2).mono ?_
  rintro _ w49 ⟨A51, c52, rfl, P9, e50⟩
  have N9_4 := P9.apart_old O4.lt
  have N9_5 := P9.apart_old O5.lt
  have N9_6 := P9.apart_old O6.lt
  have N7_9 := Own.apart2_new O7 P9 (Nat.le_refl _)
  have N8_9 := O8.dis_new P9 (Nat.le_refl _)
  have O4 := O4.ext e50
  have O5 := O5.ext e50
  have O6 := O6.ext e50
  have O7 := O7.ext e50
  have O8 := O8.ext e50
  have O9 := P9.mono hB.size
  have hB := ethen hB e50
  refine ⟨A51, r46.length, c52, rfl, ?_⟩
  refine stBlk O6 (o := 2) (cs' := #[(.slice A32 r27.length c33), (.slice A41 r36.length c42), (.slice A51 r46.length c52), (.int .i64 0), (.int .i64 0)]) rfl rfl (Nat.le_of_ble_eq_true rfl) rfl (fun w53 P6 e54 => ?_)
  have O4_ := O4.chg e54 N4_6
  have O5_ := O5.chg e54 N5_6
  have O7_ := O7.chg e54 N7_6
  have O8_ := O8.chg e54 N8_6
  have O9_ := O9.chg e54 N9_6
  have O4 := O4_
  have O5 := O5_
  have O7 := O7_
  have O8 := O8_
  have O9 := O9_
  have hB := echg hB e54 L6
  have O6 := P6
  refine ⟨_, (O4.at 3 rfl rfl), ?_⟩
  refine stBlk O6 (o := 3) (cs' := #[(.slice A32 r27.length c33), (.slice A41 r36.length c42), (.slice A51 r46.length c52), (.int .i64 s0.Waiting), (.int .i64 0)]) rfl rfl (Nat.le_of_ble_eq_true rfl) rfl (fun w55 P6 e56 => ?_)
  have O4_ := O4.chg e56 N4_6
  have O5_ := O5.chg e56 N5_6
  have O7_ := O7.chg e56 N7_6
  have O8_ := O8.chg e56 N8_6
  have O9_ := O9.chg e56 N9_6
  have O4 := O4_
  have O5 := O5_
  have O7 := O7_
  have O8 := O8_
  have O9 := O9_
  have hB := echg hB e56 L6
  have O6 := P6
  refine ⟨_, (O4.at 4 rfl rfl), ?_⟩
  refine stBlk O6 (o := 4) (cs' := #[(.slice A32 r27.length c33), (.slice A41 r36.length c42), (.slice A51 r46.length c52), (.int .i64 s0.Waiting), (.int .i64 s0.Phase)]) rfl rfl (Nat.le_of_ble_eq_true rfl) rfl (fun w57 P6 e58 => ?_)
  have O4_ := O4.chg e58 N4_6
  have O5_ := O5.chg e58 N5_6
  have O7_ := O7.chg e58 N7_6
  have O8_ := O8.chg e58 N8_6
  have O9_ := O9.chg e58 N9_6
  have O4 := O4_
  have O5 := O5_
  have O7 := O7_
  have O8 := O8_
  have O9 := O9_
  have hB := echg hB e58 L6
  have O6 := P6
  refine ⟨_, _, _, (O6.at 0 rfl rfl), ?_⟩
  refine ⟨_, _, _, (O6.at 1 rfl rfl), ?_⟩
  refine ⟨_, _, _, (O6.at 2 rfl rfl), ?_⟩
  refine ⟨_, (O6.at 3 rfl rfl), ?_⟩
  refine ⟨_, (O6.at 4 rfl rfl), ?_⟩
  refine stBlk O5 (o := 0) (cs' := #[(.slice A32 r27.length c33), (.slice A41 r36.length c42), (.slice A51 r46.length c52), (.int .i64 s0.Waiting), (.int .i64 s0.Phase)]) rfl rfl (Nat.le_of_ble_eq_true rfl) rfl (fun w59 P5 e60 => ?_)
  have O4_ := O4.chg e60 N4_5
  have O6_ := O6.chg e60 (N5_6).symm
  have O7_ := O7.chg e60 N7_5
  have O8_ := O8.chg e60 N8_5
  have O9_ := O9.chg e60 N9_5
  have O4 := O4_
  have O6 := O6_
  have O7 := O7_
  have O8 := O8_
  have O9 := O9_
  have hB := echg hB e60 L5
  have O5 := P5
  refine ⟨_, _, _, (O5.at 0 rfl rfl), ?_⟩
  refine ⟨_, _, _, (O5.at 1 rfl rfl), ?_⟩
  refine ⟨_, _, _, (O5.at 2 rfl rfl), ?_⟩
  refine ⟨_, (O5.at 3 rfl rfl), ?_⟩
  refine ⟨_, (O5.at 4 rfl rfl), ?_⟩
  obtain rfl := hr.trans H.symm
  exact ⟨A32, c33, A41, c42, F43, A51, c52, rfl, O7, O8, O9, N8_9, hB⟩

def laws_eqFrame.vc (x0_0 : Int) (x0_1 : Int) (x0_2 : Int) (x1_0 : Int) (x1_1 : Int) (x1_2 : Int) (w : World) (K : Value → World → Prop) : Prop :=
  newK w (.cells #[(.int .i64 x0_0), (.int .i64 x0_1), (.int .i64 x0_2)] 132) fun g21 w22 => newK w22 (.cells #[(.int .i64 x1_0), (.int .i64 x1_1), (.int .i64 x1_2)] 132) fun g23 w24 => ∃ (n25 : Int), w24.cell? (((⟨g21, 0, none⟩ : Addr).add 0).add 0) = some (.int .i64 n25) ∧ ∃ (n26 : Int), w24.cell? (((⟨g23, 0, none⟩ : Addr).add 0).add 0) = some (.int .i64 n26) ∧ bcase (n25 != n26) (K (.bool false) w24) (∃ (n27 : Int), w24.cell? (((⟨g21, 0, none⟩ : Addr).add 1).add 0) = some (.int .i64 n27) ∧ ∃ (n28 : Int), w24.cell? (((⟨g23, 0, none⟩ : Addr).add 1).add 0) = some (.int .i64 n28) ∧ bcase (n27 != n28) (K (.bool false) w24) (∃ (n29 : Int), w24.cell? (((⟨g21, 0, none⟩ : Addr).add 2).add 0) = some (.int .i64 n29) ∧ ∃ (n30 : Int), w24.cell? (((⟨g23, 0, none⟩ : Addr).add 2).add 0) = some (.int .i64 n30) ∧ bcase (n29 != n30) (K (.bool false) w24) (K (.bool true) w24)))

def laws_eqFrame.ann : Ann := (.seq .l (.seq (.seq .l (.two (.seq .l .l) .l)) (.seq (.seq .l (.two (.seq .l .l) .l)) (.seq (.seq .l (.two (.seq .l .l) .l)) (.seq .l .l)))))

theorem laws_eqFrame.vc_eq (x0_0 : Int) (x0_1 : Int) (x0_2 : Int) (x1_0 : Int) (x1_1 : Int) (x1_2 : Int) (w : World) (K : Value → World → Prop) : vcF Try.prog Try.f185 laws_eqFrame.ann [(.agg #[(.int .i64 x0_0), (.int .i64 x0_1), (.int .i64 x0_2)]), (.agg #[(.int .i64 x1_0), (.int .i64 x1_1), (.int .i64 x1_2)])] K w = laws_eqFrame.vc x0_0 x0_1 x0_2 x1_0 x1_1 x1_2 w K := by kernel_rfl

theorem laws_eqFrame.start {x0_0 : Int} {x0_1 : Int} {x0_2 : Int} {x1_0 : Int} {x1_1 : Int} {x1_2 : Int} {w : World} {K : Value → World → Prop} (h : laws_eqFrame.vc x0_0 x0_1 x0_2 x1_0 x1_1 x1_2 w K) : Cll Try.prog 185 #[(.agg #[(.int .i64 x0_0), (.int .i64 x0_1), (.int .i64 x0_2)]), (.agg #[(.int .i64 x1_0), (.int .i64 x1_1), (.int .i64 x1_2)])] w K :=
  vcF_sound mixed (fn := Try.f185) (by kernel_rfl) (by kernel_rfl) (an := laws_eqFrame.ann) (args := [(.agg #[(.int .i64 x0_0), (.int .i64 x0_1), (.int .i64 x0_2)]), (.agg #[(.int .i64 x1_0), (.int .i64 x1_1), (.int .i64 x1_2)])]) (by rw [laws_eqFrame.vc_eq]; exact h)

theorem laws_eqFrame.con {s0 : D.Frame} {s1 : D.Frame} {r : Bool} {w : World} (hr : r = M.laws_eqFrame s0 s1)  :
    Cll Try.prog 185 #[(.agg #[(.int .i64 s0.Pc), (.int .i64 s0.Stop), (.int .i64 s0.Mask)]), (.agg #[(.int .i64 s1.Pc), (.int .i64 s1.Stop), (.int .i64 s1.Mask)])] w (fun v_ w_ => v_ = (.bool r) ∧ Ext w w_) := by
  have H := wp.laws_eqFrame.math s0 s1
  have hB := Ext.refl w
  refine laws_eqFrame.start ?_
  unfold laws_eqFrame.vc
  unfold wp.laws_eqFrame at H
  refine newBlk (fun g1_ w21 L1 P1 e22 => ?_)
  have O1 := P1
  have L1 := Nat.le_trans hB.size L1
  have hB := ethen hB e22
  refine newBlk (fun g2_ w23 L2 P2 e24 => ?_)
  have N1_2 := O1.ne L2
  have O1 := O1.ext e24
  have O2 := P2
  have L2 := Nat.le_trans hB.size L2
  have hB := ethen hB e24
  refine ⟨_, (O1.at 0 rfl rfl), ?_⟩
  refine ⟨_, (O2.at 0 rfl rfl), ?_⟩
  refine bcase_mk (fun hc27 => ?_) (fun hc27 => ?_)
  · have H := (bcase_iff.1 H).1 hc27
    obtain rfl := hr.trans H.symm
    exact ⟨rfl, hB⟩
  · have H := (bcase_iff.1 H).2 hc27
    refine ⟨_, (O1.at 1 rfl rfl), ?_⟩
    refine ⟨_, (O2.at 1 rfl rfl), ?_⟩
    refine bcase_mk (fun hc26 => ?_) (fun hc26 => ?_)
    · have H := (bcase_iff.1 H).1 hc26
      obtain rfl := hr.trans H.symm
      exact ⟨rfl, hB⟩
    · have H := (bcase_iff.1 H).2 hc26
      refine ⟨_, (O1.at 2 rfl rfl), ?_⟩
      refine ⟨_, (O2.at 2 rfl rfl), ?_⟩
      refine bcase_mk (fun hc25 => ?_) (fun hc25 => ?_)
      · have H := (bcase_iff.1 H).1 hc25
        obtain rfl := hr.trans H.symm
        exact ⟨rfl, hB⟩
      · have H := (bcase_iff.1 H).2 hc25
        obtain rfl := hr.trans H.symm
        exact ⟨rfl, hB⟩

def laws_eqFrameS.vc (A0 : Option Addr) (n0 : Nat) (c0 : Nat) (A1 : Option Addr) (n1 : Nat) (c1 : Nat) (w : World) (K : Value → World → Prop) : Prop :=
  bcase (((n0 : Nat) : Int) != ((n1 : Nat) : Int)) (K (.bool false) w) (LoopT (σ := Int × Unit) (fun z21 w22 next23 => bcase (decide (z21.1 < ((n0 : Nat) : Int))) ((∃ M24 : Nat → Prop, ((0 : Int) ≤ z21.1 ∧ z21.1 < ((n0 : Nat) : Int) ∧ ∃ a25 : Addr, A0 = some a25 ∧ ∃ (n26 : Int), (¬ M24 ((a25.add ((z21.1.toNat) * 3))).block ∧ w22.cell? ((a25.add ((z21.1.toNat) * 3)).add 0) = some (.int .i64 n26)) ∧ ∃ (n27 : Int), (¬ M24 ((a25.add ((z21.1.toNat) * 3))).block ∧ w22.cell? ((a25.add ((z21.1.toNat) * 3)).add 1) = some (.int .i64 n27)) ∧ ∃ (n28 : Int), (¬ M24 ((a25.add ((z21.1.toNat) * 3))).block ∧ w22.cell? ((a25.add ((z21.1.toNat) * 3)).add 2) = some (.int .i64 n28)) ∧ ((0 : Int) ≤ z21.1 ∧ z21.1 < ((n1 : Nat) : Int) ∧ ∃ a29 : Addr, A1 = some a29 ∧ ∃ (n30 : Int), (¬ M24 ((a29.add ((z21.1.toNat) * 3))).block ∧ w22.cell? ((a29.add ((z21.1.toNat) * 3)).add 0) = some (.int .i64 n30)) ∧ ∃ (n31 : Int), (¬ M24 ((a29.add ((z21.1.toNat) * 3))).block ∧ w22.cell? ((a29.add ((z21.1.toNat) * 3)).add 1) = some (.int .i64 n31)) ∧ ∃ (n32 : Int), (¬ M24 ((a29.add ((z21.1.toNat) * 3))).block ∧ w22.cell? ((a29.add ((z21.1.toNat) * 3)).add 2) = some (.int .i64 n32)) ∧ Cll Try.prog 185 #[(.agg #[(.int .i64 n26), (.int .i64 n27), (.int .i64 n28)]), (.agg #[(.int .i64 n30), (.int .i64 n31), (.int .i64 n32)])] w22.drew fun v33 w34 => (∃ (b35 : Bool), v33 = (.bool b35) ∧ SameBut M24 w22 w34 ∧ bcase (!b35) (K (.bool false) w34) (next23 ((IntKind.wrap .i64 (z21.1 + 1)), ()) w34)))))) (K (.bool true) w22)) (0, ()) w)

def laws_eqFrameS.ann : Ann := (.seq .l (.seq (.seq .l (.two (.seq .l .l) .l)) (.seq (.seq .l (.one (.loop [(5, .int .i64)] (.seq (.seq .l (.two .l .l)) (.seq (.one (.seq .l (.two (.seq .l .l) .l))) .l))))) (.seq .l .l))))

theorem laws_eqFrameS.vc_eq (A0 : Option Addr) (n0 : Nat) (c0 : Nat) (A1 : Option Addr) (n1 : Nat) (c1 : Nat) (w : World) (K : Value → World → Prop) : vcF Try.prog Try.f155 laws_eqFrameS.ann [(.slice A0 n0 c0), (.slice A1 n1 c1)] K w = laws_eqFrameS.vc A0 n0 c0 A1 n1 c1 w K := by kernel_rfl

theorem laws_eqFrameS.start {A0 : Option Addr} {n0 : Nat} {c0 : Nat} {A1 : Option Addr} {n1 : Nat} {c1 : Nat} {w : World} {K : Value → World → Prop} (h : laws_eqFrameS.vc A0 n0 c0 A1 n1 c1 w K) : Cll Try.prog 155 #[(.slice A0 n0 c0), (.slice A1 n1 c1)] w K :=
  vcF_sound mixed (fn := Try.f155) (by kernel_rfl) (by kernel_rfl) (an := laws_eqFrameS.ann) (args := [(.slice A0 n0 c0), (.slice A1 n1 c1)]) (by rw [laws_eqFrameS.vc_eq]; exact h)

theorem laws_eqFrameS.con {xs0 : List D.Frame} {A0 : Option Addr} {c0 : Nat} {xs1 : List D.Frame} {A1 : Option Addr} {c1 : Nat} {r : Bool} {w : World} (hp : M.laws_eqFrameS_pre xs0 xs1) (hr : r = M.laws_eqFrameS xs0 xs1) (R0 : Row el132 w A0 xs0) (hc0 : xs0.length ≤ c0) (R1 : Row el132 w A1 xs1) (hc1 : xs1.length ≤ c1) :
    Cll Try.prog 155 #[(.slice A0 xs0.length c0), (.slice A1 xs1.length c1)] w (fun v_ w_ => v_ = (.bool r) ∧ Ext w w_) := by
  have H := wp.laws_eqFrameS.math xs0 xs1 hp
  have hB := Ext.refl w
  refine laws_eqFrameS.start ?_
  unfold laws_eqFrameS.vc
  unfold wp.laws_eqFrameS at H
  refine bcase_mk (fun hc52 => ?_) (fun hc52 => ?_)
  · have H := (bcase_iff.1 H).1 hc52
    obtain rfl := hr.trans H.symm
    exact ⟨rfl, hB⟩
  · have H := (bcase_iff.1 H).2 hc52
    obtain ⟨J23, ⟨m50, hJ49⟩, hS24⟩ := H
    refine ⟨fun m_ z_ w_ => ∃ (i21 : Int), z_ = (i21, ()) ∧ J23 m_ (i21, ()) ∧ Ext w w_, ⟨m50, 0, rfl, hJ49, hB⟩, ?_⟩
    rintro m22 _ w26 ⟨i21, rfl, hJ51, hB⟩
    have H := hS24 m22 _ hJ51
    clear hS24 hJ51
    dsimp only at H ⊢
    refine bcase_mk (fun hc47 => ?_) (fun hc47 => ?_)
    · have H := (bcase_iff.1 H).1 hc47
      refine ⟨(fun _ => False), ?_⟩
      obtain ⟨⟨h0_31, h1_32⟩, H⟩ := H
      obtain ⟨a29, ha30, hat28⟩ := Row.at (R0.ext hB) h0_31 h1_32
      refine ⟨h0_31, h1_32, a29, ha30, ?_⟩
      refine ⟨_, ⟨(fun h_ => h_), (hat28 0 _ rfl)⟩, ?_⟩
      refine ⟨_, ⟨(fun h_ => h_), (hat28 1 _ rfl)⟩, ?_⟩
      refine ⟨_, ⟨(fun h_ => h_), (hat28 2 _ rfl)⟩, ?_⟩
      obtain ⟨⟨h0_36, h1_37⟩, H⟩ := H
      obtain ⟨a34, ha35, hat33⟩ := Row.at (R1.ext hB) h0_36 h1_37
      refine ⟨h0_36, h1_37, a34, ha35, ?_⟩
      refine ⟨_, ⟨(fun h_ => h_), (hat33 0 _ rfl)⟩, ?_⟩
      refine ⟨_, ⟨(fun h_ => h_), (hat33 1 _ rfl)⟩, ?_⟩
      refine ⟨_, ⟨(fun h_ => h_), (hat33 2 _ rfl)⟩, ?_⟩
      have hS27 := Chg.refl (fun _ => False) w26
      have hB := ethen hB (Ext.drew _)
      have hS27 := hS27.then (Ext.drew _)
      obtain ⟨r38, hr39⟩ : ∃ r_, r_ = M.laws_eqFrame (rd xs0 i21) (rd xs1 i21) := ⟨_, rfl⟩
      have H := H r38 hr39
      refine (laws_eqFrame.con hr39 ).mono ?_
      rintro _ w41 ⟨rfl, e42⟩
      have hB := ethen hB e42
      have hS27 := hS27.then e42
      refine ⟨r38, rfl, ?_⟩
      refine ⟨sameBut_chg hS27, ?_⟩
      refine bcase_mk (fun hc46 => ?_) (fun hc46 => ?_)
      · have H := (bcase_iff.1 H).1 hc46
        obtain rfl := hr.trans H.symm
        exact ⟨rfl, hB⟩
      · have H := (bcase_iff.1 H).2 hc46
        obtain ⟨m43, hm44, hJ45⟩ := H
        exact ⟨m43, hm44, (IntKind.wrap .i64 (i21 + 1)), rfl, hJ45, hB⟩
    · have H := (bcase_iff.1 H).2 hc47
      obtain rfl := hr.trans H.symm
      exact ⟨rfl, hB⟩

def laws_eqWarp.vc (x0_0 : Int) (A0_1 : Option Addr) (n0_1 : Nat) (c0_1 : Nat) (A0_2 : Option Addr) (n0_2 : Nat) (c0_2 : Nat) (x1_0 : Int) (A1_1 : Option Addr) (n1_1 : Nat) (c1_1 : Nat) (A1_2 : Option Addr) (n1_2 : Nat) (c1_2 : Nat) (w : World) (K : Value → World → Prop) : Prop :=
  newK w (.cells #[(.int .i64 x0_0), (.slice A0_1 n0_1 c0_1), (.slice A0_2 n0_2 c0_2)] 102) fun g21 w22 => newK w22 (.cells #[(.int .i64 x1_0), (.slice A1_1 n1_1 c1_1), (.slice A1_2 n1_2 c1_2)] 102) fun g23 w24 => ∃ (n25 : Int), w24.cell? (((⟨g21, 0, none⟩ : Addr).add 0).add 0) = some (.int .i64 n25) ∧ ∃ (n26 : Int), w24.cell? (((⟨g23, 0, none⟩ : Addr).add 0).add 0) = some (.int .i64 n26) ∧ bcase (n25 != n26) (K (.bool false) w24) (∃ (A27 : Option Addr) (n28 : Nat) (c29 : Nat), w24.cell? (((⟨g21, 0, none⟩ : Addr).add 1).add 0) = some (.slice A27 n28 c29) ∧ ∃ (A30 : Option Addr) (n31 : Nat) (c32 : Nat), w24.cell? (((⟨g23, 0, none⟩ : Addr).add 1).add 0) = some (.slice A30 n31 c32) ∧ Cll Try.prog 155 #[(.slice A27 n28 c29), (.slice A30 n31 c32)] w24 fun v33 w34 => (∃ (b35 : Bool), v33 = (.bool b35) ∧ bcase (!b35) (K (.bool false) w34) (∃ (A36 : Option Addr) (n37 : Nat) (c38 : Nat), w34.cell? (((⟨g21, 0, none⟩ : Addr).add 2).add 0) = some (.slice A36 n37 c38) ∧ ∃ (A39 : Option Addr) (n40 : Nat) (c41 : Nat), w34.cell? (((⟨g23, 0, none⟩ : Addr).add 2).add 0) = some (.slice A39 n40 c41) ∧ Cll Try.prog 25 #[(.slice A36 n37 c38), (.slice A39 n40 c41)] w34 fun v42 w43 => (∃ (b44 : Bool), v42 = (.bool b44) ∧ bcase (!b44) (K (.bool false) w43) (K (.bool true) w43)))))

def laws_eqWarp.ann : Ann := (.seq .l (.seq (.seq .l (.two (.seq .l .l) .l)) (.seq (.seq .l (.two (.seq .l .l) .l)) (.seq (.seq .l (.two (.seq .l .l) .l)) (.seq .l .l)))))

theorem laws_eqWarp.vc_eq (x0_0 : Int) (A0_1 : Option Addr) (n0_1 : Nat) (c0_1 : Nat) (A0_2 : Option Addr) (n0_2 : Nat) (c0_2 : Nat) (x1_0 : Int) (A1_1 : Option Addr) (n1_1 : Nat) (c1_1 : Nat) (A1_2 : Option Addr) (n1_2 : Nat) (c1_2 : Nat) (w : World) (K : Value → World → Prop) : vcF Try.prog Try.f111 laws_eqWarp.ann [(.agg #[(.int .i64 x0_0), (.slice A0_1 n0_1 c0_1), (.slice A0_2 n0_2 c0_2)]), (.agg #[(.int .i64 x1_0), (.slice A1_1 n1_1 c1_1), (.slice A1_2 n1_2 c1_2)])] K w = laws_eqWarp.vc x0_0 A0_1 n0_1 c0_1 A0_2 n0_2 c0_2 x1_0 A1_1 n1_1 c1_1 A1_2 n1_2 c1_2 w K := by kernel_rfl

theorem laws_eqWarp.start {x0_0 : Int} {A0_1 : Option Addr} {n0_1 : Nat} {c0_1 : Nat} {A0_2 : Option Addr} {n0_2 : Nat} {c0_2 : Nat} {x1_0 : Int} {A1_1 : Option Addr} {n1_1 : Nat} {c1_1 : Nat} {A1_2 : Option Addr} {n1_2 : Nat} {c1_2 : Nat} {w : World} {K : Value → World → Prop} (h : laws_eqWarp.vc x0_0 A0_1 n0_1 c0_1 A0_2 n0_2 c0_2 x1_0 A1_1 n1_1 c1_1 A1_2 n1_2 c1_2 w K) : Cll Try.prog 111 #[(.agg #[(.int .i64 x0_0), (.slice A0_1 n0_1 c0_1), (.slice A0_2 n0_2 c0_2)]), (.agg #[(.int .i64 x1_0), (.slice A1_1 n1_1 c1_1), (.slice A1_2 n1_2 c1_2)])] w K :=
  vcF_sound mixed (fn := Try.f111) (by kernel_rfl) (by kernel_rfl) (an := laws_eqWarp.ann) (args := [(.agg #[(.int .i64 x0_0), (.slice A0_1 n0_1 c0_1), (.slice A0_2 n0_2 c0_2)]), (.agg #[(.int .i64 x1_0), (.slice A1_1 n1_1 c1_1), (.slice A1_2 n1_2 c1_2)])]) (by rw [laws_eqWarp.vc_eq]; exact h)

theorem laws_eqWarp.con {s0 : D.Warp} {A0_1 : Option Addr} {c0_1 : Nat} {A0_2 : Option Addr} {c0_2 : Nat} {s1 : D.Warp} {A1_1 : Option Addr} {c1_1 : Nat} {A1_2 : Option Addr} {c1_2 : Nat} {r : Bool} {w : World} (hp : M.laws_eqWarp_pre s0 s1) (hr : r = M.laws_eqWarp s0 s1) (R0_1 : Row el132 w A0_1 s0.Frames) (hc0_1 : s0.Frames.length ≤ c0_1) (R0_2 : Row el3 w A0_2 s0.Regs) (hc0_2 : s0.Regs.length ≤ c0_2) (R1_1 : Row el132 w A1_1 s1.Frames) (hc1_1 : s1.Frames.length ≤ c1_1) (R1_2 : Row el3 w A1_2 s1.Regs) (hc1_2 : s1.Regs.length ≤ c1_2) :
    Cll Try.prog 111 #[(.agg #[(.int .i64 s0.Number), (.slice A0_1 s0.Frames.length c0_1), (.slice A0_2 s0.Regs.length c0_2)]), (.agg #[(.int .i64 s1.Number), (.slice A1_1 s1.Frames.length c1_1), (.slice A1_2 s1.Regs.length c1_2)])] w (fun v_ w_ => v_ = (.bool r) ∧ Ext w w_) := by
  have H := wp.laws_eqWarp.math s0 s1 hp
  have hB := Ext.refl w
  refine laws_eqWarp.start ?_
  unfold laws_eqWarp.vc
  unfold wp.laws_eqWarp at H
  refine newBlk (fun g5_ w21 L5 P5 e22 => ?_)
  have O5 := P5
  have L5 := Nat.le_trans hB.size L5
  have hB := ethen hB e22
  refine newBlk (fun g6_ w23 L6 P6 e24 => ?_)
  have N5_6 := O5.ne L6
  have O5 := O5.ext e24
  have O6 := P6
  have L6 := Nat.le_trans hB.size L6
  have hB := ethen hB e24
  refine ⟨_, (O5.at 0 rfl rfl), ?_⟩
  refine ⟨_, (O6.at 0 rfl rfl), ?_⟩
  refine bcase_mk (fun hc37 => ?_) (fun hc37 => ?_)
  · have H := (bcase_iff.1 H).1 hc37
    obtain rfl := hr.trans H.symm
    exact ⟨rfl, hB⟩
  · have H := (bcase_iff.1 H).2 hc37
    refine ⟨_, _, _, (O5.at 1 rfl rfl), ?_⟩
    refine ⟨_, _, _, (O6.at 1 rfl rfl), ?_⟩
    obtain ⟨hp27, H⟩ := H
    obtain ⟨r25, hr26⟩ : ∃ r_, r_ = M.laws_eqFrameS s0.Frames s1.Frames := ⟨_, rfl⟩
    have H := H r25 hr26
    refine (laws_eqFrameS.con hp27 hr26 (R0_1.ext hB) hc0_1 (R1_1.ext hB) hc1_1).mono ?_
    rintro _ w28 ⟨rfl, e29⟩
    have O5 := O5.ext e29
    have O6 := O6.ext e29
    have hB := ethen hB e29
    refine ⟨r25, rfl, ?_⟩
    refine bcase_mk (fun hc36 => ?_) (fun hc36 => ?_)
    · have H := (bcase_iff.1 H).1 hc36
      obtain rfl := hr.trans H.symm
      exact ⟨rfl, hB⟩
    · have H := (bcase_iff.1 H).2 hc36
      refine ⟨_, _, _, (O5.at 2 rfl rfl), ?_⟩
      refine ⟨_, _, _, (O6.at 2 rfl rfl), ?_⟩
      obtain ⟨hp32, H⟩ := H
      obtain ⟨r30, hr31⟩ : ∃ r_, r_ = M.laws_eqIntS s0.Regs s1.Regs := ⟨_, rfl⟩
      have H := H r30 hr31
      refine (laws_eqIntS.con hp32 hr31 (R0_2.ext hB) hc0_2 (R1_2.ext hB) hc1_2).mono ?_
      rintro _ w33 ⟨rfl, e34⟩
      have O5 := O5.ext e34
      have O6 := O6.ext e34
      have hB := ethen hB e34
      refine ⟨r30, rfl, ?_⟩
      refine bcase_mk (fun hc35 => ?_) (fun hc35 => ?_)
      · have H := (bcase_iff.1 H).1 hc35
        obtain rfl := hr.trans H.symm
        exact ⟨rfl, hB⟩
      · have H := (bcase_iff.1 H).2 hc35
        obtain rfl := hr.trans H.symm
        exact ⟨rfl, hB⟩

def laws_eqWarpS.vc (A0 : Option Addr) (n0 : Nat) (c0 : Nat) (A1 : Option Addr) (n1 : Nat) (c1 : Nat) (w : World) (K : Value → World → Prop) : Prop :=
  bcase (((n0 : Nat) : Int) != ((n1 : Nat) : Int)) (K (.bool false) w) (LoopT (σ := Int × Unit) (fun z21 w22 next23 => bcase (decide (z21.1 < ((n0 : Nat) : Int))) ((∃ M24 : Nat → Prop, ((0 : Int) ≤ z21.1 ∧ z21.1 < ((n0 : Nat) : Int) ∧ ∃ a25 : Addr, A0 = some a25 ∧ ∃ (n26 : Int), (¬ M24 ((a25.add ((z21.1.toNat) * 3))).block ∧ w22.cell? ((a25.add ((z21.1.toNat) * 3)).add 0) = some (.int .i64 n26)) ∧ ∃ (A27 : Option Addr) (n28 : Nat) (c29 : Nat), (¬ M24 ((a25.add ((z21.1.toNat) * 3))).block ∧ w22.cell? ((a25.add ((z21.1.toNat) * 3)).add 1) = some (.slice A27 n28 c29)) ∧ ∃ (A30 : Option Addr) (n31 : Nat) (c32 : Nat), (¬ M24 ((a25.add ((z21.1.toNat) * 3))).block ∧ w22.cell? ((a25.add ((z21.1.toNat) * 3)).add 2) = some (.slice A30 n31 c32)) ∧ ((0 : Int) ≤ z21.1 ∧ z21.1 < ((n1 : Nat) : Int) ∧ ∃ a33 : Addr, A1 = some a33 ∧ ∃ (n34 : Int), (¬ M24 ((a33.add ((z21.1.toNat) * 3))).block ∧ w22.cell? ((a33.add ((z21.1.toNat) * 3)).add 0) = some (.int .i64 n34)) ∧ ∃ (A35 : Option Addr) (n36 : Nat) (c37 : Nat), (¬ M24 ((a33.add ((z21.1.toNat) * 3))).block ∧ w22.cell? ((a33.add ((z21.1.toNat) * 3)).add 1) = some (.slice A35 n36 c37)) ∧ ∃ (A38 : Option Addr) (n39 : Nat) (c40 : Nat), (¬ M24 ((a33.add ((z21.1.toNat) * 3))).block ∧ w22.cell? ((a33.add ((z21.1.toNat) * 3)).add 2) = some (.slice A38 n39 c40)) ∧ Cll Try.prog 111 #[(.agg #[(.int .i64 n26), (.slice A27 n28 c29), (.slice A30 n31 c32)]), (.agg #[(.int .i64 n34), (.slice A35 n36 c37), (.slice A38 n39 c40)])] w22.drew fun v41 w42 => (∃ (b43 : Bool), v41 = (.bool b43) ∧ SameBut M24 w22 w42 ∧ bcase (!b43) (K (.bool false) w42) (next23 ((IntKind.wrap .i64 (z21.1 + 1)), ()) w42)))))) (K (.bool true) w22)) (0, ()) w)

def laws_eqWarpS.ann : Ann := (.seq .l (.seq (.seq .l (.two (.seq .l .l) .l)) (.seq (.seq .l (.one (.loop [(5, .int .i64)] (.seq (.seq .l (.two .l .l)) (.seq (.one (.seq .l (.two (.seq .l .l) .l))) .l))))) (.seq .l .l))))

theorem laws_eqWarpS.vc_eq (A0 : Option Addr) (n0 : Nat) (c0 : Nat) (A1 : Option Addr) (n1 : Nat) (c1 : Nat) (w : World) (K : Value → World → Prop) : vcF Try.prog Try.f53 laws_eqWarpS.ann [(.slice A0 n0 c0), (.slice A1 n1 c1)] K w = laws_eqWarpS.vc A0 n0 c0 A1 n1 c1 w K := by kernel_rfl

theorem laws_eqWarpS.start {A0 : Option Addr} {n0 : Nat} {c0 : Nat} {A1 : Option Addr} {n1 : Nat} {c1 : Nat} {w : World} {K : Value → World → Prop} (h : laws_eqWarpS.vc A0 n0 c0 A1 n1 c1 w K) : Cll Try.prog 53 #[(.slice A0 n0 c0), (.slice A1 n1 c1)] w K :=
  vcF_sound mixed (fn := Try.f53) (by kernel_rfl) (by kernel_rfl) (an := laws_eqWarpS.ann) (args := [(.slice A0 n0 c0), (.slice A1 n1 c1)]) (by rw [laws_eqWarpS.vc_eq]; exact h)

theorem laws_eqWarpS.con {xs0 : List D.Warp} {A0 : Option Addr} {c0 : Nat} {xs1 : List D.Warp} {A1 : Option Addr} {c1 : Nat} {r : Bool} {w : World} (hp : M.laws_eqWarpS_pre xs0 xs1) (hr : r = M.laws_eqWarpS xs0 xs1) (R0 : RowW 102 el132 el3 w A0 xs0) (hc0 : xs0.length ≤ c0) (R1 : RowW 102 el132 el3 w A1 xs1) (hc1 : xs1.length ≤ c1) :
    Cll Try.prog 53 #[(.slice A0 xs0.length c0), (.slice A1 xs1.length c1)] w (fun v_ w_ => v_ = (.bool r) ∧ Ext w w_) := by
  have H := wp.laws_eqWarpS.math xs0 xs1 hp
  have hB := Ext.refl w
  refine laws_eqWarpS.start ?_
  unfold laws_eqWarpS.vc
  unfold wp.laws_eqWarpS at H
  refine bcase_mk (fun hc74 => ?_) (fun hc74 => ?_)
  · have H := (bcase_iff.1 H).1 hc74
    obtain rfl := hr.trans H.symm
    exact ⟨rfl, hB⟩
  · have H := (bcase_iff.1 H).2 hc74
    obtain ⟨J23, ⟨m72, hJ71⟩, hS24⟩ := H
    refine ⟨fun m_ z_ w_ => ∃ (i21 : Int), z_ = (i21, ()) ∧ J23 m_ (i21, ()) ∧ Ext w w_, ⟨m72, 0, rfl, hJ71, hB⟩, ?_⟩
    rintro m22 _ w26 ⟨i21, rfl, hJ73, hB⟩
    have H := hS24 m22 _ hJ73
    clear hS24 hJ73
    dsimp only at H ⊢
    refine bcase_mk (fun hc69 => ?_) (fun hc69 => ?_)
    · have H := (bcase_iff.1 H).1 hc69
      refine ⟨(fun _ => False), ?_⟩
      obtain ⟨⟨h0_31, h1_32⟩, H⟩ := H
      obtain ⟨a29, ha30, A36, c37, A38, c39, f33, f34, f35, R40, hle42, R41, hle43⟩ := RowW.at R0 h0_31 h1_32
      refine ⟨h0_31, h1_32, a29, ha30, ?_⟩
      refine ⟨_, ⟨(fun h_ => h_), (Ext.cell hB f33)⟩, ?_⟩
      refine ⟨_, _, _, ⟨(fun h_ => h_), (Ext.cell hB f34)⟩, ?_⟩
      refine ⟨_, _, _, ⟨(fun h_ => h_), (Ext.cell hB f35)⟩, ?_⟩
      obtain ⟨⟨h0_47, h1_48⟩, H⟩ := H
      obtain ⟨a45, ha46, A52, c53, A54, c55, f49, f50, f51, R56, hle58, R57, hle59⟩ := RowW.at R1 h0_47 h1_48
      refine ⟨h0_47, h1_48, a45, ha46, ?_⟩
      refine ⟨_, ⟨(fun h_ => h_), (Ext.cell hB f49)⟩, ?_⟩
      refine ⟨_, _, _, ⟨(fun h_ => h_), (Ext.cell hB f50)⟩, ?_⟩
      refine ⟨_, _, _, ⟨(fun h_ => h_), (Ext.cell hB f51)⟩, ?_⟩
      have hS27 := Chg.refl (fun _ => False) w26
      have hB := ethen hB (Ext.drew _)
      have hS27 := hS27.then (Ext.drew _)
      obtain ⟨hp62, H⟩ := H
      obtain ⟨r60, hr61⟩ : ∃ r_, r_ = M.laws_eqWarp (rd xs0 i21) (rd xs1 i21) := ⟨_, rfl⟩
      have H := H r60 hr61
      refine (cllArgs (by first | (simp only [List.length_set]; done) | (simp; done)) (laws_eqWarp.con hp62 hr61 (R40.ext hB) hle42 (R41.ext hB) hle43 (R56.ext hB) hle58 (R57.ext hB) hle59)).mono ?_
      rintro _ w63 ⟨rfl, e64⟩
      have hB := ethen hB e64
      have hS27 := hS27.then e64
      refine ⟨r60, rfl, ?_⟩
      refine ⟨sameBut_chg hS27, ?_⟩
      refine bcase_mk (fun hc68 => ?_) (fun hc68 => ?_)
      · have H := (bcase_iff.1 H).1 hc68
        obtain rfl := hr.trans H.symm
        exact ⟨rfl, hB⟩
      · have H := (bcase_iff.1 H).2 hc68
        obtain ⟨m65, hm66, hJ67⟩ := H
        exact ⟨m65, hm66, (IntKind.wrap .i64 (i21 + 1)), rfl, hJ67, hB⟩
    · have H := (bcase_iff.1 H).2 hc69
      obtain rfl := hr.trans H.symm
      exact ⟨rfl, hB⟩

def laws_eqBlock.vc (A0_0 : Option Addr) (n0_0 : Nat) (c0_0 : Nat) (A0_1 : Option Addr) (n0_1 : Nat) (c0_1 : Nat) (A0_2 : Option Addr) (n0_2 : Nat) (c0_2 : Nat) (x0_3 : Int) (x0_4 : Int) (A1_0 : Option Addr) (n1_0 : Nat) (c1_0 : Nat) (A1_1 : Option Addr) (n1_1 : Nat) (c1_1 : Nat) (A1_2 : Option Addr) (n1_2 : Nat) (c1_2 : Nat) (x1_3 : Int) (x1_4 : Int) (w : World) (K : Value → World → Prop) : Prop :=
  newK w (.cells #[(.slice A0_0 n0_0 c0_0), (.slice A0_1 n0_1 c0_1), (.slice A0_2 n0_2 c0_2), (.int .i64 x0_3), (.int .i64 x0_4)] 32) fun g21 w22 => newK w22 (.cells #[(.slice A1_0 n1_0 c1_0), (.slice A1_1 n1_1 c1_1), (.slice A1_2 n1_2 c1_2), (.int .i64 x1_3), (.int .i64 x1_4)] 32) fun g23 w24 => ∃ (A25 : Option Addr) (n26 : Nat) (c27 : Nat), w24.cell? (((⟨g21, 0, none⟩ : Addr).add 0).add 0) = some (.slice A25 n26 c27) ∧ ∃ (A28 : Option Addr) (n29 : Nat) (c30 : Nat), w24.cell? (((⟨g23, 0, none⟩ : Addr).add 0).add 0) = some (.slice A28 n29 c30) ∧ Cll Try.prog 33 #[(.slice A25 n26 c27), (.slice A28 n29 c30)] w24 fun v31 w32 => (∃ (b33 : Bool), v31 = (.bool b33) ∧ bcase (!b33) (K (.bool false) w32) (∃ (A34 : Option Addr) (n35 : Nat) (c36 : Nat), w32.cell? (((⟨g21, 0, none⟩ : Addr).add 1).add 0) = some (.slice A34 n35 c36) ∧ ∃ (A37 : Option Addr) (n38 : Nat) (c39 : Nat), w32.cell? (((⟨g23, 0, none⟩ : Addr).add 1).add 0) = some (.slice A37 n38 c39) ∧ Cll Try.prog 53 #[(.slice A34 n35 c36), (.slice A37 n38 c39)] w32 fun v40 w41 => (∃ (b42 : Bool), v40 = (.bool b42) ∧ bcase (!b42) (K (.bool false) w41) (∃ (A43 : Option Addr) (n44 : Nat) (c45 : Nat), w41.cell? (((⟨g21, 0, none⟩ : Addr).add 2).add 0) = some (.slice A43 n44 c45) ∧ ∃ (A46 : Option Addr) (n47 : Nat) (c48 : Nat), w41.cell? (((⟨g23, 0, none⟩ : Addr).add 2).add 0) = some (.slice A46 n47 c48) ∧ Cll Try.prog 25 #[(.slice A43 n44 c45), (.slice A46 n47 c48)] w41 fun v49 w50 => (∃ (b51 : Bool), v49 = (.bool b51) ∧ bcase (!b51) (K (.bool false) w50) (∃ (n52 : Int), w50.cell? (((⟨g21, 0, none⟩ : Addr).add 3).add 0) = some (.int .i64 n52) ∧ ∃ (n53 : Int), w50.cell? (((⟨g23, 0, none⟩ : Addr).add 3).add 0) = some (.int .i64 n53) ∧ bcase (n52 != n53) (K (.bool false) w50) (∃ (n54 : Int), w50.cell? (((⟨g21, 0, none⟩ : Addr).add 4).add 0) = some (.int .i64 n54) ∧ ∃ (n55 : Int), w50.cell? (((⟨g23, 0, none⟩ : Addr).add 4).add 0) = some (.int .i64 n55) ∧ bcase (n54 != n55) (K (.bool false) w50) (K (.bool true) w50))))))))

def laws_eqBlock.ann : Ann := (.seq .l (.seq (.seq .l (.two (.seq .l .l) .l)) (.seq (.seq .l (.two (.seq .l .l) .l)) (.seq (.seq .l (.two (.seq .l .l) .l)) (.seq (.seq .l (.two (.seq .l .l) .l)) (.seq (.seq .l (.two (.seq .l .l) .l)) (.seq .l .l)))))))

theorem laws_eqBlock.vc_eq (A0_0 : Option Addr) (n0_0 : Nat) (c0_0 : Nat) (A0_1 : Option Addr) (n0_1 : Nat) (c0_1 : Nat) (A0_2 : Option Addr) (n0_2 : Nat) (c0_2 : Nat) (x0_3 : Int) (x0_4 : Int) (A1_0 : Option Addr) (n1_0 : Nat) (c1_0 : Nat) (A1_1 : Option Addr) (n1_1 : Nat) (c1_1 : Nat) (A1_2 : Option Addr) (n1_2 : Nat) (c1_2 : Nat) (x1_3 : Int) (x1_4 : Int) (w : World) (K : Value → World → Prop) : vcF Try.prog Try.f15 laws_eqBlock.ann [(.agg #[(.slice A0_0 n0_0 c0_0), (.slice A0_1 n0_1 c0_1), (.slice A0_2 n0_2 c0_2), (.int .i64 x0_3), (.int .i64 x0_4)]), (.agg #[(.slice A1_0 n1_0 c1_0), (.slice A1_1 n1_1 c1_1), (.slice A1_2 n1_2 c1_2), (.int .i64 x1_3), (.int .i64 x1_4)])] K w = laws_eqBlock.vc A0_0 n0_0 c0_0 A0_1 n0_1 c0_1 A0_2 n0_2 c0_2 x0_3 x0_4 A1_0 n1_0 c1_0 A1_1 n1_1 c1_1 A1_2 n1_2 c1_2 x1_3 x1_4 w K := by kernel_rfl

theorem laws_eqBlock.start {A0_0 : Option Addr} {n0_0 : Nat} {c0_0 : Nat} {A0_1 : Option Addr} {n0_1 : Nat} {c0_1 : Nat} {A0_2 : Option Addr} {n0_2 : Nat} {c0_2 : Nat} {x0_3 : Int} {x0_4 : Int} {A1_0 : Option Addr} {n1_0 : Nat} {c1_0 : Nat} {A1_1 : Option Addr} {n1_1 : Nat} {c1_1 : Nat} {A1_2 : Option Addr} {n1_2 : Nat} {c1_2 : Nat} {x1_3 : Int} {x1_4 : Int} {w : World} {K : Value → World → Prop} (h : laws_eqBlock.vc A0_0 n0_0 c0_0 A0_1 n0_1 c0_1 A0_2 n0_2 c0_2 x0_3 x0_4 A1_0 n1_0 c1_0 A1_1 n1_1 c1_1 A1_2 n1_2 c1_2 x1_3 x1_4 w K) : Cll Try.prog 15 #[(.agg #[(.slice A0_0 n0_0 c0_0), (.slice A0_1 n0_1 c0_1), (.slice A0_2 n0_2 c0_2), (.int .i64 x0_3), (.int .i64 x0_4)]), (.agg #[(.slice A1_0 n1_0 c1_0), (.slice A1_1 n1_1 c1_1), (.slice A1_2 n1_2 c1_2), (.int .i64 x1_3), (.int .i64 x1_4)])] w K :=
  vcF_sound mixed (fn := Try.f15) (by kernel_rfl) (by kernel_rfl) (an := laws_eqBlock.ann) (args := [(.agg #[(.slice A0_0 n0_0 c0_0), (.slice A0_1 n0_1 c0_1), (.slice A0_2 n0_2 c0_2), (.int .i64 x0_3), (.int .i64 x0_4)]), (.agg #[(.slice A1_0 n1_0 c1_0), (.slice A1_1 n1_1 c1_1), (.slice A1_2 n1_2 c1_2), (.int .i64 x1_3), (.int .i64 x1_4)])]) (by rw [laws_eqBlock.vc_eq]; exact h)

theorem laws_eqBlock.con {s0 : D.Block} {A0_0 : Option Addr} {c0_0 : Nat} {A0_1 : Option Addr} {c0_1 : Nat} {A0_2 : Option Addr} {c0_2 : Nat} {s1 : D.Block} {A1_0 : Option Addr} {c1_0 : Nat} {A1_1 : Option Addr} {c1_1 : Nat} {A1_2 : Option Addr} {c1_2 : Nat} {r : Bool} {w : World} (hp : M.laws_eqBlock_pre s0 s1) (hr : r = M.laws_eqBlock s0 s1) (R0_0 : Row el76 w A0_0 s0.Code) (hc0_0 : s0.Code.length ≤ c0_0) (R0_1 : RowW 102 el132 el3 w A0_1 s0.Warps) (hc0_1 : s0.Warps.length ≤ c0_1) (R0_2 : Row el3 w A0_2 s0.Memory) (hc0_2 : s0.Memory.length ≤ c0_2) (R1_0 : Row el76 w A1_0 s1.Code) (hc1_0 : s1.Code.length ≤ c1_0) (R1_1 : RowW 102 el132 el3 w A1_1 s1.Warps) (hc1_1 : s1.Warps.length ≤ c1_1) (R1_2 : Row el3 w A1_2 s1.Memory) (hc1_2 : s1.Memory.length ≤ c1_2) :
    Cll Try.prog 15 #[(.agg #[(.slice A0_0 s0.Code.length c0_0), (.slice A0_1 s0.Warps.length c0_1), (.slice A0_2 s0.Memory.length c0_2), (.int .i64 s0.Waiting), (.int .i64 s0.Phase)]), (.agg #[(.slice A1_0 s1.Code.length c1_0), (.slice A1_1 s1.Warps.length c1_1), (.slice A1_2 s1.Memory.length c1_2), (.int .i64 s1.Waiting), (.int .i64 s1.Phase)])] w (fun v_ w_ => v_ = (.bool r) ∧ Ext w w_) := by
  have H := wp.laws_eqBlock.math s0 s1 hp
  have hB := Ext.refl w
  refine laws_eqBlock.start ?_
  unfold laws_eqBlock.vc
  unfold wp.laws_eqBlock at H
  refine newBlk (fun g7_ w21 L7 P7 e22 => ?_)
  have O7 := P7
  have L7 := Nat.le_trans hB.size L7
  have hB := ethen hB e22
  refine newBlk (fun g8_ w23 L8 P8 e24 => ?_)
  have N7_8 := O7.ne L8
  have O7 := O7.ext e24
  have O8 := P8
  have L8 := Nat.le_trans hB.size L8
  have hB := ethen hB e24
  refine ⟨_, _, _, (O7.at 0 rfl rfl), ?_⟩
  refine ⟨_, _, _, (O8.at 0 rfl rfl), ?_⟩
  obtain ⟨hp27, H⟩ := H
  obtain ⟨r25, hr26⟩ : ∃ r_, r_ = M.laws_eqInsS s0.Code s1.Code := ⟨_, rfl⟩
  have H := H r25 hr26
  refine (laws_eqInsS.con hp27 hr26 (R0_0.ext hB) hc0_0 (R1_0.ext hB) hc1_0).mono ?_
  rintro _ w28 ⟨rfl, e29⟩
  have O7 := O7.ext e29
  have O8 := O8.ext e29
  have hB := ethen hB e29
  refine ⟨r25, rfl, ?_⟩
  refine bcase_mk (fun hc44 => ?_) (fun hc44 => ?_)
  · have H := (bcase_iff.1 H).1 hc44
    obtain rfl := hr.trans H.symm
    exact ⟨rfl, hB⟩
  · have H := (bcase_iff.1 H).2 hc44
    refine ⟨_, _, _, (O7.at 1 rfl rfl), ?_⟩
    refine ⟨_, _, _, (O8.at 1 rfl rfl), ?_⟩
    obtain ⟨hp32, H⟩ := H
    obtain ⟨r30, hr31⟩ : ∃ r_, r_ = M.laws_eqWarpS s0.Warps s1.Warps := ⟨_, rfl⟩
    have H := H r30 hr31
    refine (laws_eqWarpS.con hp32 hr31 (R0_1.ext hB) hc0_1 (R1_1.ext hB) hc1_1).mono ?_
    rintro _ w33 ⟨rfl, e34⟩
    have O7 := O7.ext e34
    have O8 := O8.ext e34
    have hB := ethen hB e34
    refine ⟨r30, rfl, ?_⟩
    refine bcase_mk (fun hc43 => ?_) (fun hc43 => ?_)
    · have H := (bcase_iff.1 H).1 hc43
      obtain rfl := hr.trans H.symm
      exact ⟨rfl, hB⟩
    · have H := (bcase_iff.1 H).2 hc43
      refine ⟨_, _, _, (O7.at 2 rfl rfl), ?_⟩
      refine ⟨_, _, _, (O8.at 2 rfl rfl), ?_⟩
      obtain ⟨hp37, H⟩ := H
      obtain ⟨r35, hr36⟩ : ∃ r_, r_ = M.laws_eqIntS s0.Memory s1.Memory := ⟨_, rfl⟩
      have H := H r35 hr36
      refine (laws_eqIntS.con hp37 hr36 (R0_2.ext hB) hc0_2 (R1_2.ext hB) hc1_2).mono ?_
      rintro _ w38 ⟨rfl, e39⟩
      have O7 := O7.ext e39
      have O8 := O8.ext e39
      have hB := ethen hB e39
      refine ⟨r35, rfl, ?_⟩
      refine bcase_mk (fun hc42 => ?_) (fun hc42 => ?_)
      · have H := (bcase_iff.1 H).1 hc42
        obtain rfl := hr.trans H.symm
        exact ⟨rfl, hB⟩
      · have H := (bcase_iff.1 H).2 hc42
        refine ⟨_, (O7.at 3 rfl rfl), ?_⟩
        refine ⟨_, (O8.at 3 rfl rfl), ?_⟩
        refine bcase_mk (fun hc41 => ?_) (fun hc41 => ?_)
        · have H := (bcase_iff.1 H).1 hc41
          obtain rfl := hr.trans H.symm
          exact ⟨rfl, hB⟩
        · have H := (bcase_iff.1 H).2 hc41
          refine ⟨_, (O7.at 4 rfl rfl), ?_⟩
          refine ⟨_, (O8.at 4 rfl rfl), ?_⟩
          refine bcase_mk (fun hc40 => ?_) (fun hc40 => ?_)
          · have H := (bcase_iff.1 H).1 hc40
            obtain rfl := hr.trans H.symm
            exact ⟨rfl, hB⟩
          · have H := (bcase_iff.1 H).2 hc40
            obtain rfl := hr.trans H.symm
            exact ⟨rfl, hB⟩

end Go.V
