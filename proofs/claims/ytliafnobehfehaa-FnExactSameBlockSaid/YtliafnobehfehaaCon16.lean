import Derived.Test.YtliafnobehfehaaMath16
import Derived.Test.YtliafnobehfehaaSeat
import Derived.Test.YtliafnobehfehaaCon13
namespace Go.V
open Go.Proofs
set_option linter.unusedVariables false
set_option linter.unusedSimpArgs false
set_option maxRecDepth 100000

def spec_SamePrograms.vc (A0 : Option Addr) (n0 : Nat) (c0 : Nat) (A1 : Option Addr) (n1 : Nat) (c1 : Nat) (w : World) (K : Value → World → Prop) : Prop :=
  bcase (((n0 : Nat) : Int) != ((n1 : Nat) : Int)) (K (.bool false) w) (LoopT (σ := Int × Unit) (fun z21 w22 next23 => bcase (decide (z21.1 < ((n0 : Nat) : Int))) (((0 : Int) ≤ z21.1 ∧ z21.1 < ((n0 : Nat) : Int) ∧ ∃ a24 : Addr, A0 = some a24 ∧ ∃ (n25 : Int), w22.cell? ((a24.add ((z21.1.toNat) * 4)).add 0) = some (.int .i64 n25) ∧ ∃ (n26 : Int), w22.cell? ((a24.add ((z21.1.toNat) * 4)).add 1) = some (.int .i64 n26) ∧ ∃ (n27 : Int), w22.cell? ((a24.add ((z21.1.toNat) * 4)).add 2) = some (.int .i64 n27) ∧ ∃ (n28 : Int), w22.cell? ((a24.add ((z21.1.toNat) * 4)).add 3) = some (.int .i64 n28) ∧ ((0 : Int) ≤ z21.1 ∧ z21.1 < ((n1 : Nat) : Int) ∧ ∃ a29 : Addr, A1 = some a29 ∧ ∃ (n30 : Int), w22.cell? ((a29.add ((z21.1.toNat) * 4)).add 0) = some (.int .i64 n30) ∧ ∃ (n31 : Int), w22.cell? ((a29.add ((z21.1.toNat) * 4)).add 1) = some (.int .i64 n31) ∧ ∃ (n32 : Int), w22.cell? ((a29.add ((z21.1.toNat) * 4)).add 2) = some (.int .i64 n32) ∧ ∃ (n33 : Int), w22.cell? ((a29.add ((z21.1.toNat) * 4)).add 3) = some (.int .i64 n33) ∧ BinRun Try.prog .neq 99 (.agg #[(.int .i64 n25), (.int .i64 n26), (.int .i64 n27), (.int .i64 n28)]) (.agg #[(.int .i64 n30), (.int .i64 n31), (.int .i64 n32), (.int .i64 n33)]) fun b34 => bcase b34 (K (.bool false) w22.drew) (next23 ((IntKind.wrap .i64 (z21.1 + 1)), ()) w22.drew)))) (K (.bool true) w22)) (0, ()) w)

def spec_SamePrograms.ann : Ann := (.seq .l (.seq (.seq .l (.two (.seq .l .l) .l)) (.seq (.seq .l (.one (.loop [(5, .int .i64)] (.seq (.seq .l (.two .l .l)) (.seq (.one (.seq .l (.two (.seq .l .l) .l))) .l))))) (.seq .l .l))))

theorem spec_SamePrograms.vc_eq (A0 : Option Addr) (n0 : Nat) (c0 : Nat) (A1 : Option Addr) (n1 : Nat) (c1 : Nat) (w : World) (K : Value → World → Prop) : vcF Try.prog Try.f84 spec_SamePrograms.ann [(.slice A0 n0 c0), (.slice A1 n1 c1)] K w = spec_SamePrograms.vc A0 n0 c0 A1 n1 c1 w K := by kernel_rfl

theorem spec_SamePrograms.start {A0 : Option Addr} {n0 : Nat} {c0 : Nat} {A1 : Option Addr} {n1 : Nat} {c1 : Nat} {w : World} {K : Value → World → Prop} (h : spec_SamePrograms.vc A0 n0 c0 A1 n1 c1 w K) : Cll Try.prog 84 #[(.slice A0 n0 c0), (.slice A1 n1 c1)] w K :=
  vcF_sound mixed (fn := Try.f84) (by kernel_rfl) (by kernel_rfl) (an := spec_SamePrograms.ann) (args := [(.slice A0 n0 c0), (.slice A1 n1 c1)]) (by rw [spec_SamePrograms.vc_eq]; exact h)

theorem spec_SamePrograms.con {xs0 : List D.Ins} {A0 : Option Addr} {c0 : Nat} {xs1 : List D.Ins} {A1 : Option Addr} {c1 : Nat} {r : Bool} {w : World} (hp : M.spec_SamePrograms_pre xs0 xs1) (hr : r = M.spec_SamePrograms xs0 xs1) (R0 : Row el99 w A0 xs0) (hc0 : xs0.length ≤ c0) (R1 : Row el99 w A1 xs1) (hc1 : xs1.length ≤ c1) :
    Cll Try.prog 84 #[(.slice A0 xs0.length c0), (.slice A1 xs1.length c1)] w (fun v_ w_ => v_ = (.bool r) ∧ Ext w w_) := by
  have H := wp.spec_SamePrograms.math xs0 xs1 hp
  have hB := Ext.refl w
  refine spec_SamePrograms.start ?_
  unfold spec_SamePrograms.vc
  unfold wp.spec_SamePrograms at H
  refine bcase_mk (fun hc47 => ?_) (fun hc47 => ?_)
  · have H := (bcase_iff.1 H).1 hc47
    obtain rfl := hr.trans H.symm
    exact ⟨rfl, hB⟩
  · have H := (bcase_iff.1 H).2 hc47
    obtain ⟨J23, ⟨m45, hJ44⟩, hS24⟩ := H
    refine ⟨fun m_ z_ w_ => ∃ (i21 : Int), z_ = (i21, ()) ∧ J23 m_ (i21, ()) ∧ Ext w w_, ⟨m45, 0, rfl, hJ44, hB⟩, ?_⟩
    rintro m22 _ w26 ⟨i21, rfl, hJ46, hB⟩
    have H := hS24 m22 _ hJ46
    clear hS24 hJ46
    dsimp only at H ⊢
    refine bcase_mk (fun hc42 => ?_) (fun hc42 => ?_)
    · have H := (bcase_iff.1 H).1 hc42
      obtain ⟨⟨h0_31, h1_32⟩, H⟩ := H
      obtain ⟨a29, ha30, hat28⟩ := Row.at (R0.ext hB) h0_31 h1_32
      refine ⟨h0_31, h1_32, a29, ha30, ?_⟩
      refine ⟨_, (hat28 0 _ rfl), ?_⟩
      refine ⟨_, (hat28 1 _ rfl), ?_⟩
      refine ⟨_, (hat28 2 _ rfl), ?_⟩
      refine ⟨_, (hat28 3 _ rfl), ?_⟩
      obtain ⟨⟨h0_36, h1_37⟩, H⟩ := H
      obtain ⟨a34, ha35, hat33⟩ := Row.at (R1.ext hB) h0_36 h1_37
      refine ⟨h0_36, h1_37, a34, ha35, ?_⟩
      refine ⟨_, (hat33 0 _ rfl), ?_⟩
      refine ⟨_, (hat33 1 _ rfl), ?_⟩
      refine ⟨_, (hat33 2 _ rfl), ?_⟩
      refine ⟨_, (hat33 3 _ rfl), ?_⟩
      refine ⟨_, run_neq99 ((rd xs0 i21).Op) ((rd xs0 i21).A) ((rd xs0 i21).B) ((rd xs0 i21).C) ((rd xs1 i21).Op) ((rd xs1 i21).A) ((rd xs1 i21).B) ((rd xs1 i21).C), ?_⟩
      have hB := ethen hB (Ext.drew _)
      refine bcase_mk (fun hc41 => ?_) (fun hc41 => ?_)
      · have H := (bcase_iff.1 H).1 hc41
        obtain rfl := hr.trans H.symm
        exact ⟨rfl, hB⟩
      · have H := (bcase_iff.1 H).2 hc41
        obtain ⟨m38, hm39, hJ40⟩ := H
        exact ⟨m38, hm39, (IntKind.wrap .i64 (i21 + 1)), rfl, hJ40, hB⟩
    · have H := (bcase_iff.1 H).2 hc42
      obtain rfl := hr.trans H.symm
      exact ⟨rfl, hB⟩

def spec_l29Ints.vc (A0 : Option Addr) (n0 : Nat) (c0 : Nat) (A1 : Option Addr) (n1 : Nat) (c1 : Nat) (w : World) (K : Value → World → Prop) : Prop :=
  bcase (((n0 : Nat) : Int) != ((n1 : Nat) : Int)) (K (.bool false) w) (LoopT (σ := Int × Unit) (fun z21 w22 next23 => bcase (decide (z21.1 < ((n0 : Nat) : Int))) (((0 : Int) ≤ z21.1 ∧ z21.1 < ((n0 : Nat) : Int) ∧ ∃ a24 : Addr, A0 = some a24 ∧ ∃ (n25 : Int), w22.cell? ((a24.add ((z21.1.toNat) * 1)).add 0) = some (.int .i64 n25) ∧ ((0 : Int) ≤ z21.1 ∧ z21.1 < ((n1 : Nat) : Int) ∧ ∃ a26 : Addr, A1 = some a26 ∧ ∃ (n27 : Int), w22.cell? ((a26.add ((z21.1.toNat) * 1)).add 0) = some (.int .i64 n27) ∧ bcase (n25 != n27) (K (.bool false) w22.drew) (next23 ((IntKind.wrap .i64 (z21.1 + 1)), ()) w22.drew)))) (K (.bool true) w22)) (0, ()) w)

def spec_l29Ints.ann : Ann := (.seq .l (.seq (.seq .l (.two (.seq .l .l) .l)) (.seq (.seq .l (.one (.loop [(5, .int .i64)] (.seq (.seq .l (.two .l .l)) (.seq (.one (.seq .l (.two (.seq .l .l) .l))) .l))))) (.seq .l .l))))

theorem spec_l29Ints.vc_eq (A0 : Option Addr) (n0 : Nat) (c0 : Nat) (A1 : Option Addr) (n1 : Nat) (c1 : Nat) (w : World) (K : Value → World → Prop) : vcF Try.prog Try.f85 spec_l29Ints.ann [(.slice A0 n0 c0), (.slice A1 n1 c1)] K w = spec_l29Ints.vc A0 n0 c0 A1 n1 c1 w K := by kernel_rfl

theorem spec_l29Ints.start {A0 : Option Addr} {n0 : Nat} {c0 : Nat} {A1 : Option Addr} {n1 : Nat} {c1 : Nat} {w : World} {K : Value → World → Prop} (h : spec_l29Ints.vc A0 n0 c0 A1 n1 c1 w K) : Cll Try.prog 85 #[(.slice A0 n0 c0), (.slice A1 n1 c1)] w K :=
  vcF_sound mixed (fn := Try.f85) (by kernel_rfl) (by kernel_rfl) (an := spec_l29Ints.ann) (args := [(.slice A0 n0 c0), (.slice A1 n1 c1)]) (by rw [spec_l29Ints.vc_eq]; exact h)

theorem spec_l29Ints.con {xs0 : List Int} {A0 : Option Addr} {c0 : Nat} {xs1 : List Int} {A1 : Option Addr} {c1 : Nat} {r : Bool} {w : World} (hp : M.spec_l29Ints_pre xs0 xs1) (hr : r = M.spec_l29Ints xs0 xs1) (R0 : Row el3 w A0 xs0) (hc0 : xs0.length ≤ c0) (R1 : Row el3 w A1 xs1) (hc1 : xs1.length ≤ c1) :
    Cll Try.prog 85 #[(.slice A0 xs0.length c0), (.slice A1 xs1.length c1)] w (fun v_ w_ => v_ = (.bool r) ∧ Ext w w_) := by
  have H := wp.spec_l29Ints.math xs0 xs1 hp
  have hB := Ext.refl w
  refine spec_l29Ints.start ?_
  unfold spec_l29Ints.vc
  unfold wp.spec_l29Ints at H
  refine bcase_mk (fun hc47 => ?_) (fun hc47 => ?_)
  · have H := (bcase_iff.1 H).1 hc47
    obtain rfl := hr.trans H.symm
    exact ⟨rfl, hB⟩
  · have H := (bcase_iff.1 H).2 hc47
    obtain ⟨J23, ⟨m45, hJ44⟩, hS24⟩ := H
    refine ⟨fun m_ z_ w_ => ∃ (i21 : Int), z_ = (i21, ()) ∧ J23 m_ (i21, ()) ∧ Ext w w_, ⟨m45, 0, rfl, hJ44, hB⟩, ?_⟩
    rintro m22 _ w26 ⟨i21, rfl, hJ46, hB⟩
    have H := hS24 m22 _ hJ46
    clear hS24 hJ46
    dsimp only at H ⊢
    refine bcase_mk (fun hc42 => ?_) (fun hc42 => ?_)
    · have H := (bcase_iff.1 H).1 hc42
      obtain ⟨⟨h0_31, h1_32⟩, H⟩ := H
      obtain ⟨a29, ha30, hat28⟩ := Row.at (R0.ext hB) h0_31 h1_32
      refine ⟨h0_31, h1_32, a29, ha30, ?_⟩
      refine ⟨_, (hat28 0 _ rfl), ?_⟩
      obtain ⟨⟨h0_36, h1_37⟩, H⟩ := H
      obtain ⟨a34, ha35, hat33⟩ := Row.at (R1.ext hB) h0_36 h1_37
      refine ⟨h0_36, h1_37, a34, ha35, ?_⟩
      refine ⟨_, (hat33 0 _ rfl), ?_⟩
      have hB := ethen hB (Ext.drew _)
      refine bcase_mk (fun hc41 => ?_) (fun hc41 => ?_)
      · have H := (bcase_iff.1 H).1 hc41
        obtain rfl := hr.trans H.symm
        exact ⟨rfl, hB⟩
      · have H := (bcase_iff.1 H).2 hc41
        obtain ⟨m38, hm39, hJ40⟩ := H
        exact ⟨m38, hm39, (IntKind.wrap .i64 (i21 + 1)), rfl, hJ40, hB⟩
    · have H := (bcase_iff.1 H).2 hc42
      obtain rfl := hr.trans H.symm
      exact ⟨rfl, hB⟩

def spec_SameWarp.vc (x0_0 : Int) (A0_1 : Option Addr) (n0_1 : Nat) (c0_1 : Nat) (A0_2 : Option Addr) (n0_2 : Nat) (c0_2 : Nat) (x1_0 : Int) (A1_1 : Option Addr) (n1_1 : Nat) (c1_1 : Nat) (A1_2 : Option Addr) (n1_2 : Nat) (c1_2 : Nat) (w : World) (K : Value → World → Prop) : Prop :=
  newK w (.cells #[(.int .i64 x0_0), (.slice A0_1 n0_1 c0_1), (.slice A0_2 n0_2 c0_2)] 96) fun g21 w22 => newK w22 (.cells #[(.int .i64 x1_0), (.slice A1_1 n1_1 c1_1), (.slice A1_2 n1_2 c1_2)] 96) fun g23 w24 => ∃ (n26 : Int), w24.cell? (((⟨g21, 0, none⟩ : Addr).add 0).add 0) = some (.int .i64 n26) ∧ ∃ (n27 : Int), w24.cell? (((⟨g23, 0, none⟩ : Addr).add 0).add 0) = some (.int .i64 n27) ∧ bcase (n26 != n27) (K (.bool false) w24) (∃ (A28 : Option Addr) (n29 : Nat) (c30 : Nat), w24.cell? (((⟨g21, 0, none⟩ : Addr).add 1).add 0) = some (.slice A28 n29 c30) ∧ ∃ (A31 : Option Addr) (n32 : Nat) (c33 : Nat), w24.cell? (((⟨g23, 0, none⟩ : Addr).add 1).add 0) = some (.slice A31 n32 c33) ∧ bcase (((n29 : Nat) : Int) != ((n32 : Nat) : Int)) (K (.bool false) w24) (∃ (A34 : Option Addr) (n35 : Nat) (c36 : Nat), w24.cell? (((⟨g21, 0, none⟩ : Addr).add 2).add 0) = some (.slice A34 n35 c36) ∧ ∃ (A37 : Option Addr) (n38 : Nat) (c39 : Nat), w24.cell? (((⟨g23, 0, none⟩ : Addr).add 2).add 0) = some (.slice A37 n38 c39) ∧ bcase (((n35 : Nat) : Int) != ((n38 : Nat) : Int)) (K (.bool false) w24) (LoopT (σ := Int × Unit) (fun z40 w41 next42 => ∃ (A43 : Option Addr) (n44 : Nat) (c45 : Nat), w41.cell? (((⟨g21, 0, none⟩ : Addr).add 1).add 0) = some (.slice A43 n44 c45) ∧ bcase (decide (z40.1 < ((n44 : Nat) : Int))) (∃ (A46 : Option Addr) (n47 : Nat) (c48 : Nat), w41.cell? (((⟨g21, 0, none⟩ : Addr).add 1).add 0) = some (.slice A46 n47 c48) ∧ ((0 : Int) ≤ z40.1 ∧ z40.1 < ((n47 : Nat) : Int) ∧ ∃ a49 : Addr, A46 = some a49 ∧ ∃ (n50 : Int), w41.cell? ((a49.add ((z40.1.toNat) * 3)).add 0) = some (.int .i64 n50) ∧ ∃ (n51 : Int), w41.cell? ((a49.add ((z40.1.toNat) * 3)).add 1) = some (.int .i64 n51) ∧ ∃ (n52 : Int), w41.cell? ((a49.add ((z40.1.toNat) * 3)).add 2) = some (.int .i64 n52) ∧ ∃ (A53 : Option Addr) (n54 : Nat) (c55 : Nat), w41.cell? (((⟨g23, 0, none⟩ : Addr).add 1).add 0) = some (.slice A53 n54 c55) ∧ ((0 : Int) ≤ z40.1 ∧ z40.1 < ((n54 : Nat) : Int) ∧ ∃ a56 : Addr, A53 = some a56 ∧ ∃ (n57 : Int), w41.cell? ((a56.add ((z40.1.toNat) * 3)).add 0) = some (.int .i64 n57) ∧ ∃ (n58 : Int), w41.cell? ((a56.add ((z40.1.toNat) * 3)).add 1) = some (.int .i64 n58) ∧ ∃ (n59 : Int), w41.cell? ((a56.add ((z40.1.toNat) * 3)).add 2) = some (.int .i64 n59) ∧ BinRun Try.prog .neq 134 (.agg #[(.int .i64 n50), (.int .i64 n51), (.int .i64 n52)]) (.agg #[(.int .i64 n57), (.int .i64 n58), (.int .i64 n59)]) fun b60 => bcase b60 (K (.bool false) w41.drew) (next42 ((IntKind.wrap .i64 (z40.1 + 1)), ()) w41.drew)))) (LoopT (σ := Int × Unit) (fun z61 w62 next63 => ∃ (A64 : Option Addr) (n65 : Nat) (c66 : Nat), w62.cell? (((⟨g21, 0, none⟩ : Addr).add 2).add 0) = some (.slice A64 n65 c66) ∧ bcase (decide (z61.1 < ((n65 : Nat) : Int))) (∃ (A67 : Option Addr) (n68 : Nat) (c69 : Nat), w62.cell? (((⟨g21, 0, none⟩ : Addr).add 2).add 0) = some (.slice A67 n68 c69) ∧ ((0 : Int) ≤ z61.1 ∧ z61.1 < ((n68 : Nat) : Int) ∧ ∃ a70 : Addr, A67 = some a70 ∧ ∃ (n71 : Int), w62.cell? ((a70.add ((z61.1.toNat) * 1)).add 0) = some (.int .i64 n71) ∧ ∃ (A72 : Option Addr) (n73 : Nat) (c74 : Nat), w62.cell? (((⟨g23, 0, none⟩ : Addr).add 2).add 0) = some (.slice A72 n73 c74) ∧ ((0 : Int) ≤ z61.1 ∧ z61.1 < ((n73 : Nat) : Int) ∧ ∃ a75 : Addr, A72 = some a75 ∧ ∃ (n76 : Int), w62.cell? ((a75.add ((z61.1.toNat) * 1)).add 0) = some (.int .i64 n76) ∧ bcase (n71 != n76) (K (.bool false) w62.drew) (next63 ((IntKind.wrap .i64 (z61.1 + 1)), ()) w62.drew)))) (K (.bool true) w62)) (0, ()) w41)) (0, ()) w24)))

def spec_SameWarp.ann : Ann := (.seq .l (.seq (.seq .l (.two (.seq .l .l) .l)) (.seq (.seq .l (.one (.loop [(5, .int .i64)] (.seq (.seq .l (.two .l .l)) (.seq (.one (.seq .l (.two (.seq .l .l) .l))) .l))))) (.seq (.seq .l (.one (.loop [(6, .int .i64)] (.seq (.seq .l (.two .l .l)) (.seq (.one (.seq .l (.two (.seq .l .l) .l))) .l))))) (.seq .l .l)))))

theorem spec_SameWarp.vc_eq (x0_0 : Int) (A0_1 : Option Addr) (n0_1 : Nat) (c0_1 : Nat) (A0_2 : Option Addr) (n0_2 : Nat) (c0_2 : Nat) (x1_0 : Int) (A1_1 : Option Addr) (n1_1 : Nat) (c1_1 : Nat) (A1_2 : Option Addr) (n1_2 : Nat) (c1_2 : Nat) (w : World) (K : Value → World → Prop) : vcF Try.prog Try.f86 spec_SameWarp.ann [(.agg #[(.int .i64 x0_0), (.slice A0_1 n0_1 c0_1), (.slice A0_2 n0_2 c0_2)]), (.agg #[(.int .i64 x1_0), (.slice A1_1 n1_1 c1_1), (.slice A1_2 n1_2 c1_2)])] K w = spec_SameWarp.vc x0_0 A0_1 n0_1 c0_1 A0_2 n0_2 c0_2 x1_0 A1_1 n1_1 c1_1 A1_2 n1_2 c1_2 w K := by kernel_rfl

theorem spec_SameWarp.start {x0_0 : Int} {A0_1 : Option Addr} {n0_1 : Nat} {c0_1 : Nat} {A0_2 : Option Addr} {n0_2 : Nat} {c0_2 : Nat} {x1_0 : Int} {A1_1 : Option Addr} {n1_1 : Nat} {c1_1 : Nat} {A1_2 : Option Addr} {n1_2 : Nat} {c1_2 : Nat} {w : World} {K : Value → World → Prop} (h : spec_SameWarp.vc x0_0 A0_1 n0_1 c0_1 A0_2 n0_2 c0_2 x1_0 A1_1 n1_1 c1_1 A1_2 n1_2 c1_2 w K) : Cll Try.prog 86 #[(.agg #[(.int .i64 x0_0), (.slice A0_1 n0_1 c0_1), (.slice A0_2 n0_2 c0_2)]), (.agg #[(.int .i64 x1_0), (.slice A1_1 n1_1 c1_1), (.slice A1_2 n1_2 c1_2)])] w K :=
  vcF_sound mixed (fn := Try.f86) (by kernel_rfl) (by kernel_rfl) (an := spec_SameWarp.ann) (args := [(.agg #[(.int .i64 x0_0), (.slice A0_1 n0_1 c0_1), (.slice A0_2 n0_2 c0_2)]), (.agg #[(.int .i64 x1_0), (.slice A1_1 n1_1 c1_1), (.slice A1_2 n1_2 c1_2)])]) (by rw [spec_SameWarp.vc_eq]; exact h)

theorem spec_SameWarp.con {s0 : D.Warp} {A0_1 : Option Addr} {c0_1 : Nat} {A0_2 : Option Addr} {c0_2 : Nat} {s1 : D.Warp} {A1_1 : Option Addr} {c1_1 : Nat} {A1_2 : Option Addr} {c1_2 : Nat} {r : Bool} {w : World} (hp : M.spec_SameWarp_pre s0 s1) (hr : r = M.spec_SameWarp s0 s1) (R0_1 : Row el134 w A0_1 s0.Frames) (hc0_1 : s0.Frames.length ≤ c0_1) (R0_2 : Row el3 w A0_2 s0.Regs) (hc0_2 : s0.Regs.length ≤ c0_2) (R1_1 : Row el134 w A1_1 s1.Frames) (hc1_1 : s1.Frames.length ≤ c1_1) (R1_2 : Row el3 w A1_2 s1.Regs) (hc1_2 : s1.Regs.length ≤ c1_2) :
    Cll Try.prog 86 #[(.agg #[(.int .i64 s0.Number), (.slice A0_1 s0.Frames.length c0_1), (.slice A0_2 s0.Regs.length c0_2)]), (.agg #[(.int .i64 s1.Number), (.slice A1_1 s1.Frames.length c1_1), (.slice A1_2 s1.Regs.length c1_2)])] w (fun v_ w_ => v_ = (.bool r) ∧ Ext w w_) := by
  have H := wp.spec_SameWarp.math s0 s1 hp
  have hB := Ext.refl w
  refine spec_SameWarp.start ?_
  unfold spec_SameWarp.vc
  unfold wp.spec_SameWarp at H
  refine newBlk (fun g5_ w21 L5 P5 e22 => ?_)
  have O5 := P5
  have L5 := Nat.le_trans hB.size L5
  have hB := ethen hB e22
  refine newBlk (fun g6_ w23 L6 P6 e24 => ?_)
  have N5_6 := O5.ne L6
  have O5 := O5.ext e24
  have O6 := P6
  have L6 := Nat.le_trans hB.size L6
  have hB := ethen hB e24
  refine ⟨_, (O5.at 0 rfl rfl), ?_⟩
  refine ⟨_, (O6.at 0 rfl rfl), ?_⟩
  refine bcase_mk (fun hc79 => ?_) (fun hc79 => ?_)
  · have H := (bcase_iff.1 H).1 hc79
    obtain rfl := hr.trans H.symm
    exact ⟨rfl, hB⟩
  · have H := (bcase_iff.1 H).2 hc79
    refine ⟨_, _, _, (O5.at 1 rfl rfl), ?_⟩
    refine ⟨_, _, _, (O6.at 1 rfl rfl), ?_⟩
    refine bcase_mk (fun hc78 => ?_) (fun hc78 => ?_)
    · have H := (bcase_iff.1 H).1 hc78
      obtain rfl := hr.trans H.symm
      exact ⟨rfl, hB⟩
    · have H := (bcase_iff.1 H).2 hc78
      refine ⟨_, _, _, (O5.at 2 rfl rfl), ?_⟩
      refine ⟨_, _, _, (O6.at 2 rfl rfl), ?_⟩
      refine bcase_mk (fun hc77 => ?_) (fun hc77 => ?_)
      · have H := (bcase_iff.1 H).1 hc77
        obtain rfl := hr.trans H.symm
        exact ⟨rfl, hB⟩
      · have H := (bcase_iff.1 H).2 hc77
        obtain ⟨J27, ⟨m75, hJ74⟩, hS28⟩ := H
        refine ⟨fun m_ z_ w_ => ∃ (i25 : Int), z_ = (i25, ()) ∧ J27 m_ (i25, ()) ∧ Ext w w_ ∧ Blk w_ g5_ 96 #[(.int .i64 s0.Number), (.slice A0_1 s0.Frames.length c0_1), (.slice A0_2 s0.Regs.length c0_2)] ∧ Blk w_ g6_ 96 #[(.int .i64 s1.Number), (.slice A1_1 s1.Frames.length c1_1), (.slice A1_2 s1.Regs.length c1_2)], ⟨m75, 0, rfl, hJ74, hB, O5, O6⟩, ?_⟩
        rintro m26 _ w30 ⟨i25, rfl, hJ76, hB, O5, O6⟩
        have H := hS28 m26 _ hJ76
        clear hS28 hJ76
        dsimp only at H ⊢
        refine ⟨_, _, _, (O5.at 1 rfl rfl), ?_⟩
        refine bcase_mk (fun hc72 => ?_) (fun hc72 => ?_)
        · have H := (bcase_iff.1 H).1 hc72
          refine ⟨_, _, _, (O5.at 1 rfl rfl), ?_⟩
          obtain ⟨⟨h0_35, h1_36⟩, H⟩ := H
          obtain ⟨a33, ha34, hat32⟩ := Row.at (R0_1.ext hB) h0_35 h1_36
          refine ⟨h0_35, h1_36, a33, ha34, ?_⟩
          refine ⟨_, (hat32 0 _ rfl), ?_⟩
          refine ⟨_, (hat32 1 _ rfl), ?_⟩
          refine ⟨_, (hat32 2 _ rfl), ?_⟩
          refine ⟨_, _, _, (O6.at 1 rfl rfl), ?_⟩
          obtain ⟨⟨h0_40, h1_41⟩, H⟩ := H
          obtain ⟨a38, ha39, hat37⟩ := Row.at (R1_1.ext hB) h0_40 h1_41
          refine ⟨h0_40, h1_41, a38, ha39, ?_⟩
          refine ⟨_, (hat37 0 _ rfl), ?_⟩
          refine ⟨_, (hat37 1 _ rfl), ?_⟩
          refine ⟨_, (hat37 2 _ rfl), ?_⟩
          refine ⟨_, run_neq134 ((rd s0.Frames i25).Pc) ((rd s0.Frames i25).Stop) ((rd s0.Frames i25).Mask) ((rd s1.Frames i25).Pc) ((rd s1.Frames i25).Stop) ((rd s1.Frames i25).Mask), ?_⟩
          have O5 := O5.ext (Ext.drew _)
          have O6 := O6.ext (Ext.drew _)
          have hB := ethen hB (Ext.drew _)
          refine bcase_mk (fun hc45 => ?_) (fun hc45 => ?_)
          · have H := (bcase_iff.1 H).1 hc45
            obtain rfl := hr.trans H.symm
            exact ⟨rfl, hB⟩
          · have H := (bcase_iff.1 H).2 hc45
            obtain ⟨m42, hm43, hJ44⟩ := H
            exact ⟨m42, hm43, (IntKind.wrap .i64 (i25 + 1)), rfl, hJ44, hB, O5, O6⟩
        · have H := (bcase_iff.1 H).2 hc72
          obtain ⟨J48, ⟨m70, hJ69⟩, hS49⟩ := H
          refine ⟨fun m_ z_ w_ => ∃ (i46 : Int), z_ = (i46, ()) ∧ J48 m_ (i46, ()) ∧ Ext w w_ ∧ Blk w_ g5_ 96 #[(.int .i64 s0.Number), (.slice A0_1 s0.Frames.length c0_1), (.slice A0_2 s0.Regs.length c0_2)] ∧ Blk w_ g6_ 96 #[(.int .i64 s1.Number), (.slice A1_1 s1.Frames.length c1_1), (.slice A1_2 s1.Regs.length c1_2)], ⟨m70, 0, rfl, hJ69, hB, O5, O6⟩, ?_⟩
          rintro m47 _ w51 ⟨i46, rfl, hJ71, hB, O5, O6⟩
          have H := hS49 m47 _ hJ71
          clear hS49 hJ71
          dsimp only at H ⊢
          refine ⟨_, _, _, (O5.at 2 rfl rfl), ?_⟩
          refine bcase_mk (fun hc67 => ?_) (fun hc67 => ?_)
          · have H := (bcase_iff.1 H).1 hc67
            refine ⟨_, _, _, (O5.at 2 rfl rfl), ?_⟩
            obtain ⟨⟨h0_56, h1_57⟩, H⟩ := H
            obtain ⟨a54, ha55, hat53⟩ := Row.at (R0_2.ext hB) h0_56 h1_57
            refine ⟨h0_56, h1_57, a54, ha55, ?_⟩
            refine ⟨_, (hat53 0 _ rfl), ?_⟩
            refine ⟨_, _, _, (O6.at 2 rfl rfl), ?_⟩
            obtain ⟨⟨h0_61, h1_62⟩, H⟩ := H
            obtain ⟨a59, ha60, hat58⟩ := Row.at (R1_2.ext hB) h0_61 h1_62
            refine ⟨h0_61, h1_62, a59, ha60, ?_⟩
            refine ⟨_, (hat58 0 _ rfl), ?_⟩
            have O5 := O5.ext (Ext.drew _)
            have O6 := O6.ext (Ext.drew _)
            have hB := ethen hB (Ext.drew _)
            refine bcase_mk (fun hc66 => ?_) (fun hc66 => ?_)
            · have H := (bcase_iff.1 H).1 hc66
              obtain rfl := hr.trans H.symm
              exact ⟨rfl, hB⟩
            · have H := (bcase_iff.1 H).2 hc66
              obtain ⟨m63, hm64, hJ65⟩ := H
              exact ⟨m63, hm64, (IntKind.wrap .i64 (i46 + 1)), rfl, hJ65, hB, O5, O6⟩
          · have H := (bcase_iff.1 H).2 hc67
            obtain rfl := hr.trans H.symm
            exact ⟨rfl, hB⟩

def spec_SameBlock.vc (A0_0 : Option Addr) (n0_0 : Nat) (c0_0 : Nat) (A0_1 : Option Addr) (n0_1 : Nat) (c0_1 : Nat) (A0_2 : Option Addr) (n0_2 : Nat) (c0_2 : Nat) (x0_3 : Int) (x0_4 : Int) (A1_0 : Option Addr) (n1_0 : Nat) (c1_0 : Nat) (A1_1 : Option Addr) (n1_1 : Nat) (c1_1 : Nat) (A1_2 : Option Addr) (n1_2 : Nat) (c1_2 : Nat) (x1_3 : Int) (x1_4 : Int) (w : World) (K : Value → World → Prop) : Prop :=
  newK w (.cells #[(.slice A0_0 n0_0 c0_0), (.slice A0_1 n0_1 c0_1), (.slice A0_2 n0_2 c0_2), (.int .i64 x0_3), (.int .i64 x0_4)] 48) fun g21 w22 => newK w22 (.cells #[(.slice A1_0 n1_0 c1_0), (.slice A1_1 n1_1 c1_1), (.slice A1_2 n1_2 c1_2), (.int .i64 x1_3), (.int .i64 x1_4)] 48) fun g23 w24 => ∃ (A26 : Option Addr) (n27 : Nat) (c28 : Nat), w24.cell? (((⟨g21, 0, none⟩ : Addr).add 0).add 0) = some (.slice A26 n27 c28) ∧ ∃ (A29 : Option Addr) (n30 : Nat) (c31 : Nat), w24.cell? (((⟨g23, 0, none⟩ : Addr).add 0).add 0) = some (.slice A29 n30 c31) ∧ Cll Try.prog 84 #[(.slice A26 n27 c28), (.slice A29 n30 c31)] w24 fun v32 w33 => (∃ (b34 : Bool), v32 = (.bool b34) ∧ bcase (!b34) (K (.bool false) w33) (∃ (A35 : Option Addr) (n36 : Nat) (c37 : Nat), w33.cell? (((⟨g21, 0, none⟩ : Addr).add 1).add 0) = some (.slice A35 n36 c37) ∧ ∃ (A38 : Option Addr) (n39 : Nat) (c40 : Nat), w33.cell? (((⟨g23, 0, none⟩ : Addr).add 1).add 0) = some (.slice A38 n39 c40) ∧ bcase (((n36 : Nat) : Int) != ((n39 : Nat) : Int)) (K (.bool false) w33) (∃ (A41 : Option Addr) (n42 : Nat) (c43 : Nat), w33.cell? (((⟨g21, 0, none⟩ : Addr).add 2).add 0) = some (.slice A41 n42 c43) ∧ ∃ (A44 : Option Addr) (n45 : Nat) (c46 : Nat), w33.cell? (((⟨g23, 0, none⟩ : Addr).add 2).add 0) = some (.slice A44 n45 c46) ∧ Cll Try.prog 85 #[(.slice A41 n42 c43), (.slice A44 n45 c46)] w33 fun v47 w48 => (∃ (b49 : Bool), v47 = (.bool b49) ∧ bcase (!b49) (K (.bool false) w48) (∃ (n50 : Int), w48.cell? (((⟨g21, 0, none⟩ : Addr).add 3).add 0) = some (.int .i64 n50) ∧ ∃ (n51 : Int), w48.cell? (((⟨g23, 0, none⟩ : Addr).add 3).add 0) = some (.int .i64 n51) ∧ bcase (n50 != n51) (K (.bool false) w48) (∃ (n52 : Int), w48.cell? (((⟨g21, 0, none⟩ : Addr).add 4).add 0) = some (.int .i64 n52) ∧ ∃ (n53 : Int), w48.cell? (((⟨g23, 0, none⟩ : Addr).add 4).add 0) = some (.int .i64 n53) ∧ bcase (n52 != n53) (K (.bool false) w48) (LoopT (σ := Int × Unit) (fun z54 w55 next56 => ∃ (A57 : Option Addr) (n58 : Nat) (c59 : Nat), w55.cell? (((⟨g21, 0, none⟩ : Addr).add 1).add 0) = some (.slice A57 n58 c59) ∧ bcase (decide (z54.1 < ((n58 : Nat) : Int))) ((∃ M60 : Nat → Prop, ∃ (A61 : Option Addr) (n62 : Nat) (c63 : Nat), (¬ M60 (((⟨g21, 0, none⟩ : Addr).add 1)).block ∧ w55.cell? (((⟨g21, 0, none⟩ : Addr).add 1).add 0) = some (.slice A61 n62 c63)) ∧ ((0 : Int) ≤ z54.1 ∧ z54.1 < ((n62 : Nat) : Int) ∧ ∃ a64 : Addr, A61 = some a64 ∧ ∃ (n65 : Int), (¬ M60 ((a64.add ((z54.1.toNat) * 3))).block ∧ w55.cell? ((a64.add ((z54.1.toNat) * 3)).add 0) = some (.int .i64 n65)) ∧ ∃ (A66 : Option Addr) (n67 : Nat) (c68 : Nat), (¬ M60 ((a64.add ((z54.1.toNat) * 3))).block ∧ w55.cell? ((a64.add ((z54.1.toNat) * 3)).add 1) = some (.slice A66 n67 c68)) ∧ ∃ (A69 : Option Addr) (n70 : Nat) (c71 : Nat), (¬ M60 ((a64.add ((z54.1.toNat) * 3))).block ∧ w55.cell? ((a64.add ((z54.1.toNat) * 3)).add 2) = some (.slice A69 n70 c71)) ∧ ∃ (A72 : Option Addr) (n73 : Nat) (c74 : Nat), (¬ M60 (((⟨g23, 0, none⟩ : Addr).add 1)).block ∧ w55.cell? (((⟨g23, 0, none⟩ : Addr).add 1).add 0) = some (.slice A72 n73 c74)) ∧ ((0 : Int) ≤ z54.1 ∧ z54.1 < ((n73 : Nat) : Int) ∧ ∃ a75 : Addr, A72 = some a75 ∧ ∃ (n76 : Int), (¬ M60 ((a75.add ((z54.1.toNat) * 3))).block ∧ w55.cell? ((a75.add ((z54.1.toNat) * 3)).add 0) = some (.int .i64 n76)) ∧ ∃ (A77 : Option Addr) (n78 : Nat) (c79 : Nat), (¬ M60 ((a75.add ((z54.1.toNat) * 3))).block ∧ w55.cell? ((a75.add ((z54.1.toNat) * 3)).add 1) = some (.slice A77 n78 c79)) ∧ ∃ (A80 : Option Addr) (n81 : Nat) (c82 : Nat), (¬ M60 ((a75.add ((z54.1.toNat) * 3))).block ∧ w55.cell? ((a75.add ((z54.1.toNat) * 3)).add 2) = some (.slice A80 n81 c82)) ∧ Cll Try.prog 86 #[(.agg #[(.int .i64 n65), (.slice A66 n67 c68), (.slice A69 n70 c71)]), (.agg #[(.int .i64 n76), (.slice A77 n78 c79), (.slice A80 n81 c82)])] w55.drew fun v83 w84 => (∃ (b85 : Bool), v83 = (.bool b85) ∧ SameBut M60 w55 w84 ∧ bcase (!b85) (K (.bool false) w84) (next56 ((IntKind.wrap .i64 (z54.1 + 1)), ()) w84)))))) (K (.bool true) w55)) (0, ()) w48)))))))

def spec_SameBlock.ann : Ann := (.seq .l (.seq (.seq .l (.two (.seq .l .l) .l)) (.seq (.seq .l (.one (.loop [(5, .int .i64)] (.seq (.seq .l (.two .l .l)) (.seq (.one (.seq .l (.two (.seq .l .l) .l))) .l))))) (.seq .l .l))))

theorem spec_SameBlock.vc_eq (A0_0 : Option Addr) (n0_0 : Nat) (c0_0 : Nat) (A0_1 : Option Addr) (n0_1 : Nat) (c0_1 : Nat) (A0_2 : Option Addr) (n0_2 : Nat) (c0_2 : Nat) (x0_3 : Int) (x0_4 : Int) (A1_0 : Option Addr) (n1_0 : Nat) (c1_0 : Nat) (A1_1 : Option Addr) (n1_1 : Nat) (c1_1 : Nat) (A1_2 : Option Addr) (n1_2 : Nat) (c1_2 : Nat) (x1_3 : Int) (x1_4 : Int) (w : World) (K : Value → World → Prop) : vcF Try.prog Try.f35 spec_SameBlock.ann [(.agg #[(.slice A0_0 n0_0 c0_0), (.slice A0_1 n0_1 c0_1), (.slice A0_2 n0_2 c0_2), (.int .i64 x0_3), (.int .i64 x0_4)]), (.agg #[(.slice A1_0 n1_0 c1_0), (.slice A1_1 n1_1 c1_1), (.slice A1_2 n1_2 c1_2), (.int .i64 x1_3), (.int .i64 x1_4)])] K w = spec_SameBlock.vc A0_0 n0_0 c0_0 A0_1 n0_1 c0_1 A0_2 n0_2 c0_2 x0_3 x0_4 A1_0 n1_0 c1_0 A1_1 n1_1 c1_1 A1_2 n1_2 c1_2 x1_3 x1_4 w K := by kernel_rfl

theorem spec_SameBlock.start {A0_0 : Option Addr} {n0_0 : Nat} {c0_0 : Nat} {A0_1 : Option Addr} {n0_1 : Nat} {c0_1 : Nat} {A0_2 : Option Addr} {n0_2 : Nat} {c0_2 : Nat} {x0_3 : Int} {x0_4 : Int} {A1_0 : Option Addr} {n1_0 : Nat} {c1_0 : Nat} {A1_1 : Option Addr} {n1_1 : Nat} {c1_1 : Nat} {A1_2 : Option Addr} {n1_2 : Nat} {c1_2 : Nat} {x1_3 : Int} {x1_4 : Int} {w : World} {K : Value → World → Prop} (h : spec_SameBlock.vc A0_0 n0_0 c0_0 A0_1 n0_1 c0_1 A0_2 n0_2 c0_2 x0_3 x0_4 A1_0 n1_0 c1_0 A1_1 n1_1 c1_1 A1_2 n1_2 c1_2 x1_3 x1_4 w K) : Cll Try.prog 35 #[(.agg #[(.slice A0_0 n0_0 c0_0), (.slice A0_1 n0_1 c0_1), (.slice A0_2 n0_2 c0_2), (.int .i64 x0_3), (.int .i64 x0_4)]), (.agg #[(.slice A1_0 n1_0 c1_0), (.slice A1_1 n1_1 c1_1), (.slice A1_2 n1_2 c1_2), (.int .i64 x1_3), (.int .i64 x1_4)])] w K :=
  vcF_sound mixed (fn := Try.f35) (by kernel_rfl) (by kernel_rfl) (an := spec_SameBlock.ann) (args := [(.agg #[(.slice A0_0 n0_0 c0_0), (.slice A0_1 n0_1 c0_1), (.slice A0_2 n0_2 c0_2), (.int .i64 x0_3), (.int .i64 x0_4)]), (.agg #[(.slice A1_0 n1_0 c1_0), (.slice A1_1 n1_1 c1_1), (.slice A1_2 n1_2 c1_2), (.int .i64 x1_3), (.int .i64 x1_4)])]) (by rw [spec_SameBlock.vc_eq]; exact h)

theorem spec_SameBlock.con {s0 : D.Block} {A0_0 : Option Addr} {c0_0 : Nat} {A0_1 : Option Addr} {c0_1 : Nat} {A0_2 : Option Addr} {c0_2 : Nat} {s1 : D.Block} {A1_0 : Option Addr} {c1_0 : Nat} {A1_1 : Option Addr} {c1_1 : Nat} {A1_2 : Option Addr} {c1_2 : Nat} {r : Bool} {w : World} (hp : M.spec_SameBlock_pre s0 s1) (hr : r = M.spec_SameBlock s0 s1) (R0_0 : Row el99 w A0_0 s0.Code) (hc0_0 : s0.Code.length ≤ c0_0) (R0_1 : RowW 96 el134 el3 w A0_1 s0.Warps) (hc0_1 : s0.Warps.length ≤ c0_1) (R0_2 : Row el3 w A0_2 s0.Memory) (hc0_2 : s0.Memory.length ≤ c0_2) (R1_0 : Row el99 w A1_0 s1.Code) (hc1_0 : s1.Code.length ≤ c1_0) (R1_1 : RowW 96 el134 el3 w A1_1 s1.Warps) (hc1_1 : s1.Warps.length ≤ c1_1) (R1_2 : Row el3 w A1_2 s1.Memory) (hc1_2 : s1.Memory.length ≤ c1_2) :
    Cll Try.prog 35 #[(.agg #[(.slice A0_0 s0.Code.length c0_0), (.slice A0_1 s0.Warps.length c0_1), (.slice A0_2 s0.Memory.length c0_2), (.int .i64 s0.Waiting), (.int .i64 s0.Phase)]), (.agg #[(.slice A1_0 s1.Code.length c1_0), (.slice A1_1 s1.Warps.length c1_1), (.slice A1_2 s1.Memory.length c1_2), (.int .i64 s1.Waiting), (.int .i64 s1.Phase)])] w (fun v_ w_ => v_ = (.bool r) ∧ Ext w w_) := by
  have H := wp.spec_SameBlock.math s0 s1 hp
  have hB := Ext.refl w
  refine spec_SameBlock.start ?_
  unfold spec_SameBlock.vc
  unfold wp.spec_SameBlock at H
  refine newBlk (fun g7_ w21 L7 P7 e22 => ?_)
  have O7 := P7
  have L7 := Nat.le_trans hB.size L7
  have hB := ethen hB e22
  refine newBlk (fun g8_ w23 L8 P8 e24 => ?_)
  have N7_8 := O7.ne L8
  have O7 := O7.ext e24
  have O8 := P8
  have L8 := Nat.le_trans hB.size L8
  have hB := ethen hB e24
  refine ⟨_, _, _, (O7.at 0 rfl rfl), ?_⟩
  refine ⟨_, _, _, (O8.at 0 rfl rfl), ?_⟩
  obtain ⟨hp27, H⟩ := H
  obtain ⟨r25, hr26⟩ : ∃ r_, r_ = M.spec_SamePrograms s0.Code s1.Code := ⟨_, rfl⟩
  have H := H r25 hr26
  refine (spec_SamePrograms.con hp27 hr26 (R0_0.ext hB) hc0_0 (R1_0.ext hB) hc1_0).mono ?_
  rintro _ w28 ⟨rfl, e29⟩
  have O7 := O7.ext e29
  have O8 := O8.ext e29
  have hB := ethen hB e29
  refine ⟨r25, rfl, ?_⟩
  refine bcase_mk (fun hc92 => ?_) (fun hc92 => ?_)
  · have H := (bcase_iff.1 H).1 hc92
    obtain rfl := hr.trans H.symm
    exact ⟨rfl, hB⟩
  · have H := (bcase_iff.1 H).2 hc92
    refine ⟨_, _, _, (O7.at 1 rfl rfl), ?_⟩
    refine ⟨_, _, _, (O8.at 1 rfl rfl), ?_⟩
    refine bcase_mk (fun hc91 => ?_) (fun hc91 => ?_)
    · have H := (bcase_iff.1 H).1 hc91
      obtain rfl := hr.trans H.symm
      exact ⟨rfl, hB⟩
    · have H := (bcase_iff.1 H).2 hc91
      refine ⟨_, _, _, (O7.at 2 rfl rfl), ?_⟩
      refine ⟨_, _, _, (O8.at 2 rfl rfl), ?_⟩
      obtain ⟨hp32, H⟩ := H
      obtain ⟨r30, hr31⟩ : ∃ r_, r_ = M.spec_l29Ints s0.Memory s1.Memory := ⟨_, rfl⟩
      have H := H r30 hr31
      refine (spec_l29Ints.con hp32 hr31 (R0_2.ext hB) hc0_2 (R1_2.ext hB) hc1_2).mono ?_
      rintro _ w33 ⟨rfl, e34⟩
      have O7 := O7.ext e34
      have O8 := O8.ext e34
      have hB := ethen hB e34
      refine ⟨r30, rfl, ?_⟩
      refine bcase_mk (fun hc90 => ?_) (fun hc90 => ?_)
      · have H := (bcase_iff.1 H).1 hc90
        obtain rfl := hr.trans H.symm
        exact ⟨rfl, hB⟩
      · have H := (bcase_iff.1 H).2 hc90
        refine ⟨_, (O7.at 3 rfl rfl), ?_⟩
        refine ⟨_, (O8.at 3 rfl rfl), ?_⟩
        refine bcase_mk (fun hc89 => ?_) (fun hc89 => ?_)
        · have H := (bcase_iff.1 H).1 hc89
          obtain rfl := hr.trans H.symm
          exact ⟨rfl, hB⟩
        · have H := (bcase_iff.1 H).2 hc89
          refine ⟨_, (O7.at 4 rfl rfl), ?_⟩
          refine ⟨_, (O8.at 4 rfl rfl), ?_⟩
          refine bcase_mk (fun hc88 => ?_) (fun hc88 => ?_)
          · have H := (bcase_iff.1 H).1 hc88
            obtain rfl := hr.trans H.symm
            exact ⟨rfl, hB⟩
          · have H := (bcase_iff.1 H).2 hc88
            obtain ⟨J37, ⟨m86, hJ85⟩, hS38⟩ := H
            refine ⟨fun m_ z_ w_ => ∃ (i35 : Int), z_ = (i35, ()) ∧ J37 m_ (i35, ()) ∧ Ext w w_ ∧ Blk w_ g7_ 48 #[(.slice A0_0 s0.Code.length c0_0), (.slice A0_1 s0.Warps.length c0_1), (.slice A0_2 s0.Memory.length c0_2), (.int .i64 s0.Waiting), (.int .i64 s0.Phase)] ∧ Blk w_ g8_ 48 #[(.slice A1_0 s1.Code.length c1_0), (.slice A1_1 s1.Warps.length c1_1), (.slice A1_2 s1.Memory.length c1_2), (.int .i64 s1.Waiting), (.int .i64 s1.Phase)], ⟨m86, 0, rfl, hJ85, hB, O7, O8⟩, ?_⟩
            rintro m36 _ w40 ⟨i35, rfl, hJ87, hB, O7, O8⟩
            have H := hS38 m36 _ hJ87
            clear hS38 hJ87
            dsimp only at H ⊢
            refine ⟨_, _, _, (O7.at 1 rfl rfl), ?_⟩
            refine bcase_mk (fun hc83 => ?_) (fun hc83 => ?_)
            · have H := (bcase_iff.1 H).1 hc83
              refine ⟨(fun _ => False), ?_⟩
              refine ⟨_, _, _, ⟨(fun h_ => h_), (O7.at 1 rfl rfl)⟩, ?_⟩
              obtain ⟨⟨h0_45, h1_46⟩, H⟩ := H
              obtain ⟨a43, ha44, A50, c51, A52, c53, f47, f48, f49, R54, hle56, R55, hle57⟩ := RowW.at R0_1 h0_45 h1_46
              refine ⟨h0_45, h1_46, a43, ha44, ?_⟩
              refine ⟨_, ⟨(fun h_ => h_), (Ext.cell hB f47)⟩, ?_⟩
              refine ⟨_, _, _, ⟨(fun h_ => h_), (Ext.cell hB f48)⟩, ?_⟩
              refine ⟨_, _, _, ⟨(fun h_ => h_), (Ext.cell hB f49)⟩, ?_⟩
              refine ⟨_, _, _, ⟨(fun h_ => h_), (O8.at 1 rfl rfl)⟩, ?_⟩
              obtain ⟨⟨h0_61, h1_62⟩, H⟩ := H
              obtain ⟨a59, ha60, A66, c67, A68, c69, f63, f64, f65, R70, hle72, R71, hle73⟩ := RowW.at R1_1 h0_61 h1_62
              refine ⟨h0_61, h1_62, a59, ha60, ?_⟩
              refine ⟨_, ⟨(fun h_ => h_), (Ext.cell hB f63)⟩, ?_⟩
              refine ⟨_, _, _, ⟨(fun h_ => h_), (Ext.cell hB f64)⟩, ?_⟩
              refine ⟨_, _, _, ⟨(fun h_ => h_), (Ext.cell hB f65)⟩, ?_⟩
              have hS41 := Chg.refl (fun _ => False) w40
              have O7 := O7.ext (Ext.drew _)
              have O8 := O8.ext (Ext.drew _)
              have hB := ethen hB (Ext.drew _)
              have hS41 := hS41.then (Ext.drew _)
              obtain ⟨hp76, H⟩ := H
              obtain ⟨r74, hr75⟩ : ∃ r_, r_ = M.spec_SameWarp (rd s0.Warps i35) (rd s1.Warps i35) := ⟨_, rfl⟩
              have H := H r74 hr75
              refine (cllArgs (by first | (simp only [List.length_set]; done) | (simp; done)) (spec_SameWarp.con hp76 hr75 (R54.ext hB) hle56 (R55.ext hB) hle57 (R70.ext hB) hle72 (R71.ext hB) hle73)).mono ?_
              rintro _ w77 ⟨rfl, e78⟩
              have O7 := O7.ext e78
              have O8 := O8.ext e78
              have hB := ethen hB e78
              have hS41 := hS41.then e78
              refine ⟨r74, rfl, ?_⟩
              refine ⟨sameBut_chg hS41, ?_⟩
              refine bcase_mk (fun hc82 => ?_) (fun hc82 => ?_)
              · have H := (bcase_iff.1 H).1 hc82
                obtain rfl := hr.trans H.symm
                exact ⟨rfl, hB⟩
              · have H := (bcase_iff.1 H).2 hc82
                obtain ⟨m79, hm80, hJ81⟩ := H
                exact ⟨m79, hm80, (IntKind.wrap .i64 (i35 + 1)), rfl, hJ81, hB, O7, O8⟩
            · have H := (bcase_iff.1 H).2 hc83
              obtain rfl := hr.trans H.symm
              exact ⟨rfl, hB⟩

def slices_Equal_impl_Ins_impl_Ins.vc (A0 : Option Addr) (n0 : Nat) (c0 : Nat) (A1 : Option Addr) (n1 : Nat) (c1 : Nat) (w : World) (K : Value → World → Prop) : Prop :=
  bcase (((n0 : Nat) : Int) != ((n1 : Nat) : Int)) (K (.bool false) w) (LoopT (σ := Int × Unit) (fun z21 w22 next23 => bcase (decide (z21.1 < ((n0 : Nat) : Int))) (((0 : Int) ≤ z21.1 ∧ z21.1 < ((n0 : Nat) : Int) ∧ ∃ a24 : Addr, A0 = some a24 ∧ ∃ (n25 : Int), w22.cell? ((a24.add ((z21.1.toNat) * 4)).add 0) = some (.int .i64 n25) ∧ ∃ (n26 : Int), w22.cell? ((a24.add ((z21.1.toNat) * 4)).add 1) = some (.int .i64 n26) ∧ ∃ (n27 : Int), w22.cell? ((a24.add ((z21.1.toNat) * 4)).add 2) = some (.int .i64 n27) ∧ ∃ (n28 : Int), w22.cell? ((a24.add ((z21.1.toNat) * 4)).add 3) = some (.int .i64 n28) ∧ ((0 : Int) ≤ z21.1 ∧ z21.1 < ((n1 : Nat) : Int) ∧ ∃ a29 : Addr, A1 = some a29 ∧ ∃ (n30 : Int), w22.cell? ((a29.add ((z21.1.toNat) * 4)).add 0) = some (.int .i64 n30) ∧ ∃ (n31 : Int), w22.cell? ((a29.add ((z21.1.toNat) * 4)).add 1) = some (.int .i64 n31) ∧ ∃ (n32 : Int), w22.cell? ((a29.add ((z21.1.toNat) * 4)).add 2) = some (.int .i64 n32) ∧ ∃ (n33 : Int), w22.cell? ((a29.add ((z21.1.toNat) * 4)).add 3) = some (.int .i64 n33) ∧ BinRun Try.prog .neq 99 (.agg #[(.int .i64 n25), (.int .i64 n26), (.int .i64 n27), (.int .i64 n28)]) (.agg #[(.int .i64 n30), (.int .i64 n31), (.int .i64 n32), (.int .i64 n33)]) fun b34 => bcase b34 (K (.bool false) w22.drew) (next23 ((IntKind.wrap .i64 (z21.1 + 1)), ()) w22.drew)))) (K (.bool true) w22)) (0, ()) w)

def slices_Equal_impl_Ins_impl_Ins.ann : Ann := (.seq .l (.seq (.seq .l (.two (.seq .l .l) .l)) (.seq (.seq .l (.one (.loop [(13, .int .i64)] (.seq .l (.seq (.two .l .l) (.seq (.one (.seq .l (.seq .l (.two (.seq .l .l) .l)))) .l)))))) (.seq .l .l))))

theorem slices_Equal_impl_Ins_impl_Ins.vc_eq (A0 : Option Addr) (n0 : Nat) (c0 : Nat) (A1 : Option Addr) (n1 : Nat) (c1 : Nat) (w : World) (K : Value → World → Prop) : vcF Try.prog Try.f78 slices_Equal_impl_Ins_impl_Ins.ann [(.slice A0 n0 c0), (.slice A1 n1 c1)] K w = slices_Equal_impl_Ins_impl_Ins.vc A0 n0 c0 A1 n1 c1 w K := by kernel_rfl

theorem slices_Equal_impl_Ins_impl_Ins.start {A0 : Option Addr} {n0 : Nat} {c0 : Nat} {A1 : Option Addr} {n1 : Nat} {c1 : Nat} {w : World} {K : Value → World → Prop} (h : slices_Equal_impl_Ins_impl_Ins.vc A0 n0 c0 A1 n1 c1 w K) : Cll Try.prog 78 #[(.slice A0 n0 c0), (.slice A1 n1 c1)] w K :=
  vcF_sound mixed (fn := Try.f78) (by kernel_rfl) (by kernel_rfl) (an := slices_Equal_impl_Ins_impl_Ins.ann) (args := [(.slice A0 n0 c0), (.slice A1 n1 c1)]) (by rw [slices_Equal_impl_Ins_impl_Ins.vc_eq]; exact h)

theorem slices_Equal_impl_Ins_impl_Ins.con {xs0 : List D.Ins} {A0 : Option Addr} {c0 : Nat} {xs1 : List D.Ins} {A1 : Option Addr} {c1 : Nat} {r : Bool} {w : World} (hp : M.slices_Equal_impl_Ins_impl_Ins_pre xs0 xs1) (hr : r = M.slices_Equal_impl_Ins_impl_Ins xs0 xs1) (R0 : Row el99 w A0 xs0) (hc0 : xs0.length ≤ c0) (R1 : Row el99 w A1 xs1) (hc1 : xs1.length ≤ c1) :
    Cll Try.prog 78 #[(.slice A0 xs0.length c0), (.slice A1 xs1.length c1)] w (fun v_ w_ => v_ = (.bool r) ∧ Ext w w_) := by
  have H := wp.slices_Equal_impl_Ins_impl_Ins.math xs0 xs1 hp
  have hB := Ext.refl w
  refine slices_Equal_impl_Ins_impl_Ins.start ?_
  unfold slices_Equal_impl_Ins_impl_Ins.vc
  unfold wp.slices_Equal_impl_Ins_impl_Ins at H
  refine bcase_mk (fun hc47 => ?_) (fun hc47 => ?_)
  · have H := (bcase_iff.1 H).1 hc47
    obtain rfl := hr.trans H.symm
    exact ⟨rfl, hB⟩
  · have H := (bcase_iff.1 H).2 hc47
    obtain ⟨J23, ⟨m45, hJ44⟩, hS24⟩ := H
    refine ⟨fun m_ z_ w_ => ∃ (i21 : Int), z_ = (i21, ()) ∧ J23 m_ (i21, ()) ∧ Ext w w_, ⟨m45, 0, rfl, hJ44, hB⟩, ?_⟩
    rintro m22 _ w26 ⟨i21, rfl, hJ46, hB⟩
    have H := hS24 m22 _ hJ46
    clear hS24 hJ46
    dsimp only at H ⊢
    refine bcase_mk (fun hc42 => ?_) (fun hc42 => ?_)
    · have H := (bcase_iff.1 H).1 hc42
      obtain ⟨⟨h0_31, h1_32⟩, H⟩ := H
      obtain ⟨a29, ha30, hat28⟩ := Row.at (R0.ext hB) h0_31 h1_32
      refine ⟨h0_31, h1_32, a29, ha30, ?_⟩
      refine ⟨_, (hat28 0 _ rfl), ?_⟩
      refine ⟨_, (hat28 1 _ rfl), ?_⟩
      refine ⟨_, (hat28 2 _ rfl), ?_⟩
      refine ⟨_, (hat28 3 _ rfl), ?_⟩
      obtain ⟨⟨h0_36, h1_37⟩, H⟩ := H
      obtain ⟨a34, ha35, hat33⟩ := Row.at (R1.ext hB) h0_36 h1_37
      refine ⟨h0_36, h1_37, a34, ha35, ?_⟩
      refine ⟨_, (hat33 0 _ rfl), ?_⟩
      refine ⟨_, (hat33 1 _ rfl), ?_⟩
      refine ⟨_, (hat33 2 _ rfl), ?_⟩
      refine ⟨_, (hat33 3 _ rfl), ?_⟩
      refine ⟨_, run_neq99 ((rd xs0 i21).Op) ((rd xs0 i21).A) ((rd xs0 i21).B) ((rd xs0 i21).C) ((rd xs1 i21).Op) ((rd xs1 i21).A) ((rd xs1 i21).B) ((rd xs1 i21).C), ?_⟩
      have hB := ethen hB (Ext.drew _)
      refine bcase_mk (fun hc41 => ?_) (fun hc41 => ?_)
      · have H := (bcase_iff.1 H).1 hc41
        obtain rfl := hr.trans H.symm
        exact ⟨rfl, hB⟩
      · have H := (bcase_iff.1 H).2 hc41
        obtain ⟨m38, hm39, hJ40⟩ := H
        exact ⟨m38, hm39, (IntKind.wrap .i64 (i21 + 1)), rfl, hJ40, hB⟩
    · have H := (bcase_iff.1 H).2 hc42
      obtain rfl := hr.trans H.symm
      exact ⟨rfl, hB⟩

def slices_EqualFunc_impl_Warp_impl_Warp_impl_Warp_impl_Warp.vc (A0 : Option Addr) (n0 : Nat) (c0 : Nat) (A1 : Option Addr) (n1 : Nat) (c1 : Nat) (f2 : Nat) (cap2 : Array Value) (w : World) (K : Value → World → Prop) : Prop :=
  bcase (((n0 : Nat) : Int) != ((n1 : Nat) : Int)) (K (.bool false) w) (LoopT (σ := Int × Unit) (fun z21 w22 next23 => bcase (decide (z21.1 < ((n0 : Nat) : Int))) (((0 : Int) ≤ z21.1 ∧ z21.1 < ((n0 : Nat) : Int) ∧ ∃ a24 : Addr, A0 = some a24 ∧ ∃ (n25 : Int), w22.cell? ((a24.add ((z21.1.toNat) * 3)).add 0) = some (.int .i64 n25) ∧ ∃ (A26 : Option Addr) (n27 : Nat) (c28 : Nat), w22.cell? ((a24.add ((z21.1.toNat) * 3)).add 1) = some (.slice A26 n27 c28) ∧ ∃ (A29 : Option Addr) (n30 : Nat) (c31 : Nat), w22.cell? ((a24.add ((z21.1.toNat) * 3)).add 2) = some (.slice A29 n30 c31) ∧ newK w22 (.cells #[(.int .i64 0), (.slice none 0 0), (.slice none 0 0)] 96) fun g32 w33 => stCells (⟨g32, 0, none⟩ : Addr) [(.int .i64 n25), (.slice A26 n27 c28), (.slice A29 n30 c31)] 0 w33 fun w34 => ((0 : Int) ≤ z21.1 ∧ z21.1 < ((n1 : Nat) : Int) ∧ ∃ a35 : Addr, A1 = some a35 ∧ ∃ (n36 : Int), w34.cell? ((a35.add ((z21.1.toNat) * 3)).add 0) = some (.int .i64 n36) ∧ ∃ (A37 : Option Addr) (n38 : Nat) (c39 : Nat), w34.cell? ((a35.add ((z21.1.toNat) * 3)).add 1) = some (.slice A37 n38 c39) ∧ ∃ (A40 : Option Addr) (n41 : Nat) (c42 : Nat), w34.cell? ((a35.add ((z21.1.toNat) * 3)).add 2) = some (.slice A40 n41 c42) ∧ newK w34 (.cells #[(.int .i64 0), (.slice none 0 0), (.slice none 0 0)] 96) fun g43 w44 => stCells (⟨g43, 0, none⟩ : Addr) [(.int .i64 n36), (.slice A37 n38 c39), (.slice A40 n41 c42)] 0 w44 fun w45 => ∃ (n46 : Int), w45.cell? ((⟨g32, 0, none⟩ : Addr).add 0) = some (.int .i64 n46) ∧ ∃ (A47 : Option Addr) (n48 : Nat) (c49 : Nat), w45.cell? ((⟨g32, 0, none⟩ : Addr).add 1) = some (.slice A47 n48 c49) ∧ ∃ (A50 : Option Addr) (n51 : Nat) (c52 : Nat), w45.cell? ((⟨g32, 0, none⟩ : Addr).add 2) = some (.slice A50 n51 c52) ∧ ∃ (n53 : Int), w45.cell? ((⟨g43, 0, none⟩ : Addr).add 0) = some (.int .i64 n53) ∧ ∃ (A54 : Option Addr) (n55 : Nat) (c56 : Nat), w45.cell? ((⟨g43, 0, none⟩ : Addr).add 1) = some (.slice A54 n55 c56) ∧ ∃ (A57 : Option Addr) (n58 : Nat) (c59 : Nat), w45.cell? ((⟨g43, 0, none⟩ : Addr).add 2) = some (.slice A57 n58 c59) ∧ Cll Try.prog f2 (#[(.agg #[(.int .i64 n46), (.slice A47 n48 c49), (.slice A50 n51 c52)]), (.agg #[(.int .i64 n53), (.slice A54 n55 c56), (.slice A57 n58 c59)])] ++ cap2) w45 fun v60 w61 => (∃ (b62 : Bool), v60 = (.bool b62) ∧ bcase (!b62) (K (.bool false) w61) (next23 ((IntKind.wrap .i64 (z21.1 + 1)), ()) w61))))) (K (.bool true) w22)) (0, ()) w)

def slices_EqualFunc_impl_Warp_impl_Warp_impl_Warp_impl_Warp.ann : Ann := (.seq .l (.seq (.seq .l (.two (.seq .l .l) .l)) (.seq (.seq .l (.one (.loop [(17, .int .i64)] (.seq .l (.seq (.two .l .l) (.seq (.one (.seq .l (.seq .l (.seq .l (.two (.seq .l .l) .l))))) .l)))))) (.seq .l .l))))

theorem slices_EqualFunc_impl_Warp_impl_Warp_impl_Warp_impl_Warp.vc_eq (A0 : Option Addr) (n0 : Nat) (c0 : Nat) (A1 : Option Addr) (n1 : Nat) (c1 : Nat) (f2 : Nat) (cap2 : Array Value) (w : World) (K : Value → World → Prop) : vcF Try.prog Try.f79 slices_EqualFunc_impl_Warp_impl_Warp_impl_Warp_impl_Warp.ann [(.slice A0 n0 c0), (.slice A1 n1 c1), (.func (.func f2) #[] cap2)] K w = slices_EqualFunc_impl_Warp_impl_Warp_impl_Warp_impl_Warp.vc A0 n0 c0 A1 n1 c1 f2 cap2 w K := by kernel_rfl

theorem slices_EqualFunc_impl_Warp_impl_Warp_impl_Warp_impl_Warp.start {A0 : Option Addr} {n0 : Nat} {c0 : Nat} {A1 : Option Addr} {n1 : Nat} {c1 : Nat} {f2 : Nat} {cap2 : Array Value} {w : World} {K : Value → World → Prop} (h : slices_EqualFunc_impl_Warp_impl_Warp_impl_Warp_impl_Warp.vc A0 n0 c0 A1 n1 c1 f2 cap2 w K) : Cll Try.prog 79 #[(.slice A0 n0 c0), (.slice A1 n1 c1), (.func (.func f2) #[] cap2)] w K :=
  vcF_sound mixed (fn := Try.f79) (by kernel_rfl) (by kernel_rfl) (an := slices_EqualFunc_impl_Warp_impl_Warp_impl_Warp_impl_Warp.ann) (args := [(.slice A0 n0 c0), (.slice A1 n1 c1), (.func (.func f2) #[] cap2)]) (by rw [slices_EqualFunc_impl_Warp_impl_Warp_impl_Warp_impl_Warp.vc_eq]; exact h)

theorem slices_EqualFunc_impl_Warp_impl_Warp_impl_Warp_impl_Warp.con {xs0 : List D.Warp} {A0 : Option Addr} {c0 : Nat} {xs1 : List D.Warp} {A1 : Option Addr} {c1 : Nat} {f2 : Nat} {cap2 : Array Value} {g2 : D.Warp → D.Warp → Bool} {D2 : D.Warp → D.Warp → Prop} {r : Bool} {w : World} (hp : M.slices_EqualFunc_impl_Warp_impl_Warp_impl_Warp_impl_Warp_pre xs0 xs1 g2 D2) (hr : r = M.slices_EqualFunc_impl_Warp_impl_Warp_impl_Warp_impl_Warp xs0 xs1 g2) (R0 : RowW 96 el134 el3 w A0 xs0) (hc0 : xs0.length ≤ c0) (R1 : RowW 96 el134 el3 w A1 xs1) (hc1 : xs1.length ≤ c1) (F2 : ∀ (z0_ : D.Warp) (z1_ : D.Warp) (Az0_1 : Option Addr) (cz0_1 : Nat) (Az0_2 : Option Addr) (cz0_2 : Nat) (Az1_1 : Option Addr) (cz1_1 : Nat) (Az1_2 : Option Addr) (cz1_2 : Nat), D2 z0_ z1_ → ∀ w_ : World, Ext w w_ → Row el134 w_ Az0_1 z0_.Frames → z0_.Frames.length ≤ cz0_1 → Row el3 w_ Az0_2 z0_.Regs → z0_.Regs.length ≤ cz0_2 → Row el134 w_ Az1_1 z1_.Frames → z1_.Frames.length ≤ cz1_1 → Row el3 w_ Az1_2 z1_.Regs → z1_.Regs.length ≤ cz1_2 → Cll Try.prog f2 (#[(.agg #[(.int .i64 z0_.Number), (.slice Az0_1 z0_.Frames.length cz0_1), (.slice Az0_2 z0_.Regs.length cz0_2)]), (.agg #[(.int .i64 z1_.Number), (.slice Az1_1 z1_.Frames.length cz1_1), (.slice Az1_2 z1_.Regs.length cz1_2)])] ++ cap2) w_ (fun v_ w1_ => v_ = (.bool (g2 z0_ z1_)) ∧ Ext w_ w1_)) :
    Cll Try.prog 79 #[(.slice A0 xs0.length c0), (.slice A1 xs1.length c1), (.func (.func f2) #[] cap2)] w (fun v_ w_ => v_ = (.bool r) ∧ Ext w w_) := by
  have H := wp.slices_EqualFunc_impl_Warp_impl_Warp_impl_Warp_impl_Warp.math xs0 xs1 g2 D2 hp
  have hB := Ext.refl w
  refine slices_EqualFunc_impl_Warp_impl_Warp_impl_Warp_impl_Warp.start ?_
  unfold slices_EqualFunc_impl_Warp_impl_Warp_impl_Warp_impl_Warp.vc
  unfold wp.slices_EqualFunc_impl_Warp_impl_Warp_impl_Warp_impl_Warp at H
  refine bcase_mk (fun hc81 => ?_) (fun hc81 => ?_)
  · have H := (bcase_iff.1 H).1 hc81
    obtain rfl := hr.trans H.symm
    exact ⟨rfl, hB⟩
  · have H := (bcase_iff.1 H).2 hc81
    obtain ⟨J23, ⟨m79, hJ78⟩, hS24⟩ := H
    refine ⟨fun m_ z_ w_ => ∃ (i21 : Int), z_ = (i21, ()) ∧ J23 m_ (i21, ()) ∧ Ext w w_, ⟨m79, 0, rfl, hJ78, hB⟩, ?_⟩
    rintro m22 _ w26 ⟨i21, rfl, hJ80, hB⟩
    have H := hS24 m22 _ hJ80
    clear hS24 hJ80
    dsimp only at H ⊢
    refine bcase_mk (fun hc76 => ?_) (fun hc76 => ?_)
    · have H := (bcase_iff.1 H).1 hc76
      obtain ⟨⟨h0_30, h1_31⟩, H⟩ := H
      obtain ⟨a28, ha29, A35, c36, A37, c38, f32, f33, f34, R39, hle41, R40, hle42⟩ := RowW.at R0 h0_30 h1_31
      refine ⟨h0_30, h1_31, a28, ha29, ?_⟩
      refine ⟨_, (Ext.cell hB f32), ?_⟩
      refine ⟨_, _, _, (Ext.cell hB f33), ?_⟩
      refine ⟨_, _, _, (Ext.cell hB f34), ?_⟩
      refine newBlk (fun g5_ w43 L5 P5 e44 => ?_)
      have O5 := P5
      have L5 := Nat.le_trans hB.size L5
      have hB := ethen hB e44
      refine stBlk O5 (o := 0) (cs' := #[(.int .i64 ((rd xs0 i21).Number)), (.slice A35 ((rd xs0 i21).Frames.length) c36), (.slice A37 ((rd xs0 i21).Regs.length) c38)]) rfl rfl (Nat.le_of_ble_eq_true rfl) rfl (fun w45 P5 e46 => ?_)
      have hB := echg hB e46 L5
      have O5 := P5
      obtain ⟨⟨h0_50, h1_51⟩, H⟩ := H
      obtain ⟨a48, ha49, A55, c56, A57, c58, f52, f53, f54, R59, hle61, R60, hle62⟩ := RowW.at R1 h0_50 h1_51
      refine ⟨h0_50, h1_51, a48, ha49, ?_⟩
      refine ⟨_, (Ext.cell hB f52), ?_⟩
      refine ⟨_, _, _, (Ext.cell hB f53), ?_⟩
      refine ⟨_, _, _, (Ext.cell hB f54), ?_⟩
      refine newBlk (fun g8_ w63 L8 P8 e64 => ?_)
      have N5_8 := O5.ne L8
      have O5 := O5.ext e64
      have O8 := P8
      have L8 := Nat.le_trans hB.size L8
      have hB := ethen hB e64
      refine stBlk O8 (o := 0) (cs' := #[(.int .i64 ((rd xs1 i21).Number)), (.slice A55 ((rd xs1 i21).Frames.length) c56), (.slice A57 ((rd xs1 i21).Regs.length) c58)]) rfl rfl (Nat.le_of_ble_eq_true rfl) rfl (fun w65 P8 e66 => ?_)
      have O5_ := O5.chg e66 N5_8
      have O5 := O5_
      have hB := echg hB e66 L8
      have O8 := P8
      refine ⟨_, (O5.at 0 rfl rfl), ?_⟩
      refine ⟨_, _, _, (O5.at 1 rfl rfl), ?_⟩
      refine ⟨_, _, _, (O5.at 2 rfl rfl), ?_⟩
      refine ⟨_, (O8.at 0 rfl rfl), ?_⟩
      refine ⟨_, _, _, (O8.at 1 rfl rfl), ?_⟩
      refine ⟨_, _, _, (O8.at 2 rfl rfl), ?_⟩
      obtain ⟨hd69, H⟩ := H
      obtain ⟨r67, hr68⟩ : ∃ r_, r_ = g2 (rd xs0 i21) (rd xs1 i21) := ⟨_, rfl⟩
      have H := H r67 hr68
      refine (F2 (rd xs0 i21) (rd xs1 i21) _ _ _ _ _ _ _ _ hd69 _ hB (R39.ext hB) hle41 (R40.ext hB) hle42 (R59.ext hB) hle61 (R60.ext hB) hle62).mono ?_
      rintro _ w70 ⟨rfl, e71⟩
      rw [← hr68]
      have O5 := O5.ext e71
      have O8 := O8.ext e71
      have hB := ethen hB e71
      refine ⟨r67, rfl, ?_⟩
      refine bcase_mk (fun hc75 => ?_) (fun hc75 => ?_)
      · have H := (bcase_iff.1 H).1 hc75
        obtain rfl := hr.trans H.symm
        exact ⟨rfl, hB⟩
      · have H := (bcase_iff.1 H).2 hc75
        obtain ⟨m72, hm73, hJ74⟩ := H
        exact ⟨m72, hm73, (IntKind.wrap .i64 (i21 + 1)), rfl, hJ74, hB⟩
    · have H := (bcase_iff.1 H).2 hc76
      obtain rfl := hr.trans H.symm
      exact ⟨rfl, hB⟩

def slices_Equal_impl_Frame_impl_Frame.vc (A0 : Option Addr) (n0 : Nat) (c0 : Nat) (A1 : Option Addr) (n1 : Nat) (c1 : Nat) (w : World) (K : Value → World → Prop) : Prop :=
  bcase (((n0 : Nat) : Int) != ((n1 : Nat) : Int)) (K (.bool false) w) (LoopT (σ := Int × Unit) (fun z21 w22 next23 => bcase (decide (z21.1 < ((n0 : Nat) : Int))) (((0 : Int) ≤ z21.1 ∧ z21.1 < ((n0 : Nat) : Int) ∧ ∃ a24 : Addr, A0 = some a24 ∧ ∃ (n25 : Int), w22.cell? ((a24.add ((z21.1.toNat) * 3)).add 0) = some (.int .i64 n25) ∧ ∃ (n26 : Int), w22.cell? ((a24.add ((z21.1.toNat) * 3)).add 1) = some (.int .i64 n26) ∧ ∃ (n27 : Int), w22.cell? ((a24.add ((z21.1.toNat) * 3)).add 2) = some (.int .i64 n27) ∧ ((0 : Int) ≤ z21.1 ∧ z21.1 < ((n1 : Nat) : Int) ∧ ∃ a28 : Addr, A1 = some a28 ∧ ∃ (n29 : Int), w22.cell? ((a28.add ((z21.1.toNat) * 3)).add 0) = some (.int .i64 n29) ∧ ∃ (n30 : Int), w22.cell? ((a28.add ((z21.1.toNat) * 3)).add 1) = some (.int .i64 n30) ∧ ∃ (n31 : Int), w22.cell? ((a28.add ((z21.1.toNat) * 3)).add 2) = some (.int .i64 n31) ∧ BinRun Try.prog .neq 134 (.agg #[(.int .i64 n25), (.int .i64 n26), (.int .i64 n27)]) (.agg #[(.int .i64 n29), (.int .i64 n30), (.int .i64 n31)]) fun b32 => bcase b32 (K (.bool false) w22.drew) (next23 ((IntKind.wrap .i64 (z21.1 + 1)), ()) w22.drew)))) (K (.bool true) w22)) (0, ()) w)

def slices_Equal_impl_Frame_impl_Frame.ann : Ann := (.seq .l (.seq (.seq .l (.two (.seq .l .l) .l)) (.seq (.seq .l (.one (.loop [(13, .int .i64)] (.seq .l (.seq (.two .l .l) (.seq (.one (.seq .l (.seq .l (.two (.seq .l .l) .l)))) .l)))))) (.seq .l .l))))

theorem slices_Equal_impl_Frame_impl_Frame.vc_eq (A0 : Option Addr) (n0 : Nat) (c0 : Nat) (A1 : Option Addr) (n1 : Nat) (c1 : Nat) (w : World) (K : Value → World → Prop) : vcF Try.prog Try.f130 slices_Equal_impl_Frame_impl_Frame.ann [(.slice A0 n0 c0), (.slice A1 n1 c1)] K w = slices_Equal_impl_Frame_impl_Frame.vc A0 n0 c0 A1 n1 c1 w K := by kernel_rfl

theorem slices_Equal_impl_Frame_impl_Frame.start {A0 : Option Addr} {n0 : Nat} {c0 : Nat} {A1 : Option Addr} {n1 : Nat} {c1 : Nat} {w : World} {K : Value → World → Prop} (h : slices_Equal_impl_Frame_impl_Frame.vc A0 n0 c0 A1 n1 c1 w K) : Cll Try.prog 130 #[(.slice A0 n0 c0), (.slice A1 n1 c1)] w K :=
  vcF_sound mixed (fn := Try.f130) (by kernel_rfl) (by kernel_rfl) (an := slices_Equal_impl_Frame_impl_Frame.ann) (args := [(.slice A0 n0 c0), (.slice A1 n1 c1)]) (by rw [slices_Equal_impl_Frame_impl_Frame.vc_eq]; exact h)

theorem slices_Equal_impl_Frame_impl_Frame.con {xs0 : List D.Frame} {A0 : Option Addr} {c0 : Nat} {xs1 : List D.Frame} {A1 : Option Addr} {c1 : Nat} {r : Bool} {w : World} (hp : M.slices_Equal_impl_Frame_impl_Frame_pre xs0 xs1) (hr : r = M.slices_Equal_impl_Frame_impl_Frame xs0 xs1) (R0 : Row el134 w A0 xs0) (hc0 : xs0.length ≤ c0) (R1 : Row el134 w A1 xs1) (hc1 : xs1.length ≤ c1) :
    Cll Try.prog 130 #[(.slice A0 xs0.length c0), (.slice A1 xs1.length c1)] w (fun v_ w_ => v_ = (.bool r) ∧ Ext w w_) := by
  have H := wp.slices_Equal_impl_Frame_impl_Frame.math xs0 xs1 hp
  have hB := Ext.refl w
  refine slices_Equal_impl_Frame_impl_Frame.start ?_
  unfold slices_Equal_impl_Frame_impl_Frame.vc
  unfold wp.slices_Equal_impl_Frame_impl_Frame at H
  refine bcase_mk (fun hc47 => ?_) (fun hc47 => ?_)
  · have H := (bcase_iff.1 H).1 hc47
    obtain rfl := hr.trans H.symm
    exact ⟨rfl, hB⟩
  · have H := (bcase_iff.1 H).2 hc47
    obtain ⟨J23, ⟨m45, hJ44⟩, hS24⟩ := H
    refine ⟨fun m_ z_ w_ => ∃ (i21 : Int), z_ = (i21, ()) ∧ J23 m_ (i21, ()) ∧ Ext w w_, ⟨m45, 0, rfl, hJ44, hB⟩, ?_⟩
    rintro m22 _ w26 ⟨i21, rfl, hJ46, hB⟩
    have H := hS24 m22 _ hJ46
    clear hS24 hJ46
    dsimp only at H ⊢
    refine bcase_mk (fun hc42 => ?_) (fun hc42 => ?_)
    · have H := (bcase_iff.1 H).1 hc42
      obtain ⟨⟨h0_31, h1_32⟩, H⟩ := H
      obtain ⟨a29, ha30, hat28⟩ := Row.at (R0.ext hB) h0_31 h1_32
      refine ⟨h0_31, h1_32, a29, ha30, ?_⟩
      refine ⟨_, (hat28 0 _ rfl), ?_⟩
      refine ⟨_, (hat28 1 _ rfl), ?_⟩
      refine ⟨_, (hat28 2 _ rfl), ?_⟩
      obtain ⟨⟨h0_36, h1_37⟩, H⟩ := H
      obtain ⟨a34, ha35, hat33⟩ := Row.at (R1.ext hB) h0_36 h1_37
      refine ⟨h0_36, h1_37, a34, ha35, ?_⟩
      refine ⟨_, (hat33 0 _ rfl), ?_⟩
      refine ⟨_, (hat33 1 _ rfl), ?_⟩
      refine ⟨_, (hat33 2 _ rfl), ?_⟩
      refine ⟨_, run_neq134 ((rd xs0 i21).Pc) ((rd xs0 i21).Stop) ((rd xs0 i21).Mask) ((rd xs1 i21).Pc) ((rd xs1 i21).Stop) ((rd xs1 i21).Mask), ?_⟩
      have hB := ethen hB (Ext.drew _)
      refine bcase_mk (fun hc41 => ?_) (fun hc41 => ?_)
      · have H := (bcase_iff.1 H).1 hc41
        obtain rfl := hr.trans H.symm
        exact ⟨rfl, hB⟩
      · have H := (bcase_iff.1 H).2 hc41
        obtain ⟨m38, hm39, hJ40⟩ := H
        exact ⟨m38, hm39, (IntKind.wrap .i64 (i21 + 1)), rfl, hJ40, hB⟩
    · have H := (bcase_iff.1 H).2 hc42
      obtain rfl := hr.trans H.symm
      exact ⟨rfl, hB⟩

def slices_Equal_int_int.vc (A0 : Option Addr) (n0 : Nat) (c0 : Nat) (A1 : Option Addr) (n1 : Nat) (c1 : Nat) (w : World) (K : Value → World → Prop) : Prop :=
  bcase (((n0 : Nat) : Int) != ((n1 : Nat) : Int)) (K (.bool false) w) (LoopT (σ := Int × Unit) (fun z21 w22 next23 => bcase (decide (z21.1 < ((n0 : Nat) : Int))) (((0 : Int) ≤ z21.1 ∧ z21.1 < ((n0 : Nat) : Int) ∧ ∃ a24 : Addr, A0 = some a24 ∧ ∃ (n25 : Int), w22.cell? ((a24.add ((z21.1.toNat) * 1)).add 0) = some (.int .i64 n25) ∧ ((0 : Int) ≤ z21.1 ∧ z21.1 < ((n1 : Nat) : Int) ∧ ∃ a26 : Addr, A1 = some a26 ∧ ∃ (n27 : Int), w22.cell? ((a26.add ((z21.1.toNat) * 1)).add 0) = some (.int .i64 n27) ∧ bcase (n25 != n27) (K (.bool false) w22.drew) (next23 ((IntKind.wrap .i64 (z21.1 + 1)), ()) w22.drew)))) (K (.bool true) w22)) (0, ()) w)

def slices_Equal_int_int.ann : Ann := (.seq .l (.seq (.seq .l (.two (.seq .l .l) .l)) (.seq (.seq .l (.one (.loop [(13, .int .i64)] (.seq .l (.seq (.two .l .l) (.seq (.one (.seq .l (.seq .l (.two (.seq .l .l) .l)))) .l)))))) (.seq .l .l))))

theorem slices_Equal_int_int.vc_eq (A0 : Option Addr) (n0 : Nat) (c0 : Nat) (A1 : Option Addr) (n1 : Nat) (c1 : Nat) (w : World) (K : Value → World → Prop) : vcF Try.prog Try.f81 slices_Equal_int_int.ann [(.slice A0 n0 c0), (.slice A1 n1 c1)] K w = slices_Equal_int_int.vc A0 n0 c0 A1 n1 c1 w K := by kernel_rfl

theorem slices_Equal_int_int.start {A0 : Option Addr} {n0 : Nat} {c0 : Nat} {A1 : Option Addr} {n1 : Nat} {c1 : Nat} {w : World} {K : Value → World → Prop} (h : slices_Equal_int_int.vc A0 n0 c0 A1 n1 c1 w K) : Cll Try.prog 81 #[(.slice A0 n0 c0), (.slice A1 n1 c1)] w K :=
  vcF_sound mixed (fn := Try.f81) (by kernel_rfl) (by kernel_rfl) (an := slices_Equal_int_int.ann) (args := [(.slice A0 n0 c0), (.slice A1 n1 c1)]) (by rw [slices_Equal_int_int.vc_eq]; exact h)

theorem slices_Equal_int_int.con {xs0 : List Int} {A0 : Option Addr} {c0 : Nat} {xs1 : List Int} {A1 : Option Addr} {c1 : Nat} {r : Bool} {w : World} (hp : M.slices_Equal_int_int_pre xs0 xs1) (hr : r = M.slices_Equal_int_int xs0 xs1) (R0 : Row el3 w A0 xs0) (hc0 : xs0.length ≤ c0) (R1 : Row el3 w A1 xs1) (hc1 : xs1.length ≤ c1) :
    Cll Try.prog 81 #[(.slice A0 xs0.length c0), (.slice A1 xs1.length c1)] w (fun v_ w_ => v_ = (.bool r) ∧ Ext w w_) := by
  have H := wp.slices_Equal_int_int.math xs0 xs1 hp
  have hB := Ext.refl w
  refine slices_Equal_int_int.start ?_
  unfold slices_Equal_int_int.vc
  unfold wp.slices_Equal_int_int at H
  refine bcase_mk (fun hc47 => ?_) (fun hc47 => ?_)
  · have H := (bcase_iff.1 H).1 hc47
    obtain rfl := hr.trans H.symm
    exact ⟨rfl, hB⟩
  · have H := (bcase_iff.1 H).2 hc47
    obtain ⟨J23, ⟨m45, hJ44⟩, hS24⟩ := H
    refine ⟨fun m_ z_ w_ => ∃ (i21 : Int), z_ = (i21, ()) ∧ J23 m_ (i21, ()) ∧ Ext w w_, ⟨m45, 0, rfl, hJ44, hB⟩, ?_⟩
    rintro m22 _ w26 ⟨i21, rfl, hJ46, hB⟩
    have H := hS24 m22 _ hJ46
    clear hS24 hJ46
    dsimp only at H ⊢
    refine bcase_mk (fun hc42 => ?_) (fun hc42 => ?_)
    · have H := (bcase_iff.1 H).1 hc42
      obtain ⟨⟨h0_31, h1_32⟩, H⟩ := H
      obtain ⟨a29, ha30, hat28⟩ := Row.at (R0.ext hB) h0_31 h1_32
      refine ⟨h0_31, h1_32, a29, ha30, ?_⟩
      refine ⟨_, (hat28 0 _ rfl), ?_⟩
      obtain ⟨⟨h0_36, h1_37⟩, H⟩ := H
      obtain ⟨a34, ha35, hat33⟩ := Row.at (R1.ext hB) h0_36 h1_37
      refine ⟨h0_36, h1_37, a34, ha35, ?_⟩
      refine ⟨_, (hat33 0 _ rfl), ?_⟩
      have hB := ethen hB (Ext.drew _)
      refine bcase_mk (fun hc41 => ?_) (fun hc41 => ?_)
      · have H := (bcase_iff.1 H).1 hc41
        obtain rfl := hr.trans H.symm
        exact ⟨rfl, hB⟩
      · have H := (bcase_iff.1 H).2 hc41
        obtain ⟨m38, hm39, hJ40⟩ := H
        exact ⟨m38, hm39, (IntKind.wrap .i64 (i21 + 1)), rfl, hJ40, hB⟩
    · have H := (bcase_iff.1 H).2 hc42
      obtain rfl := hr.trans H.symm
      exact ⟨rfl, hB⟩

def impl_SameWarp.vc (x0_0 : Int) (A0_1 : Option Addr) (n0_1 : Nat) (c0_1 : Nat) (A0_2 : Option Addr) (n0_2 : Nat) (c0_2 : Nat) (x1_0 : Int) (A1_1 : Option Addr) (n1_1 : Nat) (c1_1 : Nat) (A1_2 : Option Addr) (n1_2 : Nat) (c1_2 : Nat) (w : World) (K : Value → World → Prop) : Prop :=
  newK w (.cells #[(.int .i64 x0_0), (.slice A0_1 n0_1 c0_1), (.slice A0_2 n0_2 c0_2)] 96) fun g21 w22 => newK w22 (.cells #[(.int .i64 x1_0), (.slice A1_1 n1_1 c1_1), (.slice A1_2 n1_2 c1_2)] 96) fun g23 w24 => ∃ (n25 : Int), w24.cell? (((⟨g21, 0, none⟩ : Addr).add 0).add 0) = some (.int .i64 n25) ∧ ∃ (n26 : Int), w24.cell? (((⟨g23, 0, none⟩ : Addr).add 0).add 0) = some (.int .i64 n26) ∧ bcase (n25 == n26) (∃ (A27 : Option Addr) (n28 : Nat) (c29 : Nat), w24.cell? (((⟨g21, 0, none⟩ : Addr).add 1).add 0) = some (.slice A27 n28 c29) ∧ ∃ (A30 : Option Addr) (n31 : Nat) (c32 : Nat), w24.cell? (((⟨g23, 0, none⟩ : Addr).add 1).add 0) = some (.slice A30 n31 c32) ∧ Cll Try.prog 130 #[(.slice A27 n28 c29), (.slice A30 n31 c32)] w24 fun v33 w34 => (∃ (b35 : Bool), v33 = (.bool b35) ∧ bcase b35 (∃ (A36 : Option Addr) (n37 : Nat) (c38 : Nat), w34.cell? (((⟨g21, 0, none⟩ : Addr).add 2).add 0) = some (.slice A36 n37 c38) ∧ ∃ (A39 : Option Addr) (n40 : Nat) (c41 : Nat), w34.cell? (((⟨g23, 0, none⟩ : Addr).add 2).add 0) = some (.slice A39 n40 c41) ∧ Cll Try.prog 81 #[(.slice A36 n37 c38), (.slice A39 n40 c41)] w34 fun v42 w43 => (∃ (b44 : Bool), v42 = (.bool b44) ∧ K (.bool b44) w43)) (K (.bool false) w34))) (K (.bool false) w24)

def impl_SameWarp.ann : Ann := (.seq .l (.seq .l .l))

theorem impl_SameWarp.vc_eq (x0_0 : Int) (A0_1 : Option Addr) (n0_1 : Nat) (c0_1 : Nat) (A0_2 : Option Addr) (n0_2 : Nat) (c0_2 : Nat) (x1_0 : Int) (A1_1 : Option Addr) (n1_1 : Nat) (c1_1 : Nat) (A1_2 : Option Addr) (n1_2 : Nat) (c1_2 : Nat) (w : World) (K : Value → World → Prop) : vcF Try.prog Try.f80 impl_SameWarp.ann [(.agg #[(.int .i64 x0_0), (.slice A0_1 n0_1 c0_1), (.slice A0_2 n0_2 c0_2)]), (.agg #[(.int .i64 x1_0), (.slice A1_1 n1_1 c1_1), (.slice A1_2 n1_2 c1_2)])] K w = impl_SameWarp.vc x0_0 A0_1 n0_1 c0_1 A0_2 n0_2 c0_2 x1_0 A1_1 n1_1 c1_1 A1_2 n1_2 c1_2 w K := by kernel_rfl

theorem impl_SameWarp.start {x0_0 : Int} {A0_1 : Option Addr} {n0_1 : Nat} {c0_1 : Nat} {A0_2 : Option Addr} {n0_2 : Nat} {c0_2 : Nat} {x1_0 : Int} {A1_1 : Option Addr} {n1_1 : Nat} {c1_1 : Nat} {A1_2 : Option Addr} {n1_2 : Nat} {c1_2 : Nat} {w : World} {K : Value → World → Prop} (h : impl_SameWarp.vc x0_0 A0_1 n0_1 c0_1 A0_2 n0_2 c0_2 x1_0 A1_1 n1_1 c1_1 A1_2 n1_2 c1_2 w K) : Cll Try.prog 80 #[(.agg #[(.int .i64 x0_0), (.slice A0_1 n0_1 c0_1), (.slice A0_2 n0_2 c0_2)]), (.agg #[(.int .i64 x1_0), (.slice A1_1 n1_1 c1_1), (.slice A1_2 n1_2 c1_2)])] w K :=
  vcF_sound mixed (fn := Try.f80) (by kernel_rfl) (by kernel_rfl) (an := impl_SameWarp.ann) (args := [(.agg #[(.int .i64 x0_0), (.slice A0_1 n0_1 c0_1), (.slice A0_2 n0_2 c0_2)]), (.agg #[(.int .i64 x1_0), (.slice A1_1 n1_1 c1_1), (.slice A1_2 n1_2 c1_2)])]) (by rw [impl_SameWarp.vc_eq]; exact h)

theorem impl_SameWarp.con {s0 : D.Warp} {A0_1 : Option Addr} {c0_1 : Nat} {A0_2 : Option Addr} {c0_2 : Nat} {s1 : D.Warp} {A1_1 : Option Addr} {c1_1 : Nat} {A1_2 : Option Addr} {c1_2 : Nat} {r : Bool} {w : World} (hp : M.impl_SameWarp_pre s0 s1) (hr : r = M.impl_SameWarp s0 s1) (R0_1 : Row el134 w A0_1 s0.Frames) (hc0_1 : s0.Frames.length ≤ c0_1) (R0_2 : Row el3 w A0_2 s0.Regs) (hc0_2 : s0.Regs.length ≤ c0_2) (R1_1 : Row el134 w A1_1 s1.Frames) (hc1_1 : s1.Frames.length ≤ c1_1) (R1_2 : Row el3 w A1_2 s1.Regs) (hc1_2 : s1.Regs.length ≤ c1_2) :
    Cll Try.prog 80 #[(.agg #[(.int .i64 s0.Number), (.slice A0_1 s0.Frames.length c0_1), (.slice A0_2 s0.Regs.length c0_2)]), (.agg #[(.int .i64 s1.Number), (.slice A1_1 s1.Frames.length c1_1), (.slice A1_2 s1.Regs.length c1_2)])] w (fun v_ w_ => v_ = (.bool r) ∧ Ext w w_) := by
  have H := wp.impl_SameWarp.math s0 s1 hp
  have hB := Ext.refl w
  refine impl_SameWarp.start ?_
  unfold impl_SameWarp.vc
  unfold wp.impl_SameWarp at H
  refine newBlk (fun g5_ w21 L5 P5 e22 => ?_)
  have O5 := P5
  have L5 := Nat.le_trans hB.size L5
  have hB := ethen hB e22
  refine newBlk (fun g6_ w23 L6 P6 e24 => ?_)
  have N5_6 := O5.ne L6
  have O5 := O5.ext e24
  have O6 := P6
  have L6 := Nat.le_trans hB.size L6
  have hB := ethen hB e24
  refine ⟨_, (O5.at 0 rfl rfl), ?_⟩
  refine ⟨_, (O6.at 0 rfl rfl), ?_⟩
  refine bcase_mk (fun hc36 => ?_) (fun hc36 => ?_)
  · have H := (bcase_iff.1 H).1 hc36
    refine ⟨_, _, _, (O5.at 1 rfl rfl), ?_⟩
    refine ⟨_, _, _, (O6.at 1 rfl rfl), ?_⟩
    obtain ⟨hp27, H⟩ := H
    obtain ⟨r25, hr26⟩ : ∃ r_, r_ = M.slices_Equal_impl_Frame_impl_Frame s0.Frames s1.Frames := ⟨_, rfl⟩
    have H := H r25 hr26
    refine (slices_Equal_impl_Frame_impl_Frame.con hp27 hr26 (R0_1.ext hB) hc0_1 (R1_1.ext hB) hc1_1).mono ?_
    rintro _ w28 ⟨rfl, e29⟩
    have O5 := O5.ext e29
    have O6 := O6.ext e29
    have hB := ethen hB e29
    refine ⟨r25, rfl, ?_⟩
    refine bcase_mk (fun hc35 => ?_) (fun hc35 => ?_)
    · have H := (bcase_iff.1 H).1 hc35
      refine ⟨_, _, _, (O5.at 2 rfl rfl), ?_⟩
      refine ⟨_, _, _, (O6.at 2 rfl rfl), ?_⟩
      obtain ⟨hp32, H⟩ := H
      obtain ⟨r30, hr31⟩ : ∃ r_, r_ = M.slices_Equal_int_int s0.Regs s1.Regs := ⟨_, rfl⟩
      have H := H r30 hr31
      refine (slices_Equal_int_int.con hp32 hr31 (R0_2.ext hB) hc0_2 (R1_2.ext hB) hc1_2).mono ?_
      rintro _ w33 ⟨rfl, e34⟩
      have O5 := O5.ext e34
      have O6 := O6.ext e34
      have hB := ethen hB e34
      refine ⟨r30, rfl, ?_⟩
      obtain rfl := hr.trans H.symm
      exact ⟨rfl, hB⟩
    · have H := (bcase_iff.1 H).2 hc35
      obtain rfl := hr.trans H.symm
      exact ⟨rfl, hB⟩
  · have H := (bcase_iff.1 H).2 hc36
    obtain rfl := hr.trans H.symm
    exact ⟨rfl, hB⟩

def impl_SameBlock.vc (A0_0 : Option Addr) (n0_0 : Nat) (c0_0 : Nat) (A0_1 : Option Addr) (n0_1 : Nat) (c0_1 : Nat) (A0_2 : Option Addr) (n0_2 : Nat) (c0_2 : Nat) (x0_3 : Int) (x0_4 : Int) (A1_0 : Option Addr) (n1_0 : Nat) (c1_0 : Nat) (A1_1 : Option Addr) (n1_1 : Nat) (c1_1 : Nat) (A1_2 : Option Addr) (n1_2 : Nat) (c1_2 : Nat) (x1_3 : Int) (x1_4 : Int) (w : World) (K : Value → World → Prop) : Prop :=
  newK w (.cells #[(.slice A0_0 n0_0 c0_0), (.slice A0_1 n0_1 c0_1), (.slice A0_2 n0_2 c0_2), (.int .i64 x0_3), (.int .i64 x0_4)] 48) fun g21 w22 => newK w22 (.cells #[(.slice A1_0 n1_0 c1_0), (.slice A1_1 n1_1 c1_1), (.slice A1_2 n1_2 c1_2), (.int .i64 x1_3), (.int .i64 x1_4)] 48) fun g23 w24 => ∃ (A25 : Option Addr) (n26 : Nat) (c27 : Nat), w24.cell? (((⟨g21, 0, none⟩ : Addr).add 0).add 0) = some (.slice A25 n26 c27) ∧ ∃ (A28 : Option Addr) (n29 : Nat) (c30 : Nat), w24.cell? (((⟨g23, 0, none⟩ : Addr).add 0).add 0) = some (.slice A28 n29 c30) ∧ Cll Try.prog 78 #[(.slice A25 n26 c27), (.slice A28 n29 c30)] w24 fun v31 w32 => (∃ (b33 : Bool), v31 = (.bool b33) ∧ bcase b33 (∃ (A34 : Option Addr) (n35 : Nat) (c36 : Nat), w32.cell? (((⟨g21, 0, none⟩ : Addr).add 1).add 0) = some (.slice A34 n35 c36) ∧ ∃ (A37 : Option Addr) (n38 : Nat) (c39 : Nat), w32.cell? (((⟨g23, 0, none⟩ : Addr).add 1).add 0) = some (.slice A37 n38 c39) ∧ Cll Try.prog 79 #[(.slice A34 n35 c36), (.slice A37 n38 c39), (.func (.func 80) #[] #[])] w32 fun v40 w41 => (∃ (b42 : Bool), v40 = (.bool b42) ∧ bcase b42 (∃ (A43 : Option Addr) (n44 : Nat) (c45 : Nat), w41.cell? (((⟨g21, 0, none⟩ : Addr).add 2).add 0) = some (.slice A43 n44 c45) ∧ ∃ (A46 : Option Addr) (n47 : Nat) (c48 : Nat), w41.cell? (((⟨g23, 0, none⟩ : Addr).add 2).add 0) = some (.slice A46 n47 c48) ∧ Cll Try.prog 81 #[(.slice A43 n44 c45), (.slice A46 n47 c48)] w41 fun v49 w50 => (∃ (b51 : Bool), v49 = (.bool b51) ∧ bcase b51 (∃ (n52 : Int), w50.cell? (((⟨g21, 0, none⟩ : Addr).add 3).add 0) = some (.int .i64 n52) ∧ ∃ (n53 : Int), w50.cell? (((⟨g23, 0, none⟩ : Addr).add 3).add 0) = some (.int .i64 n53) ∧ bcase (n52 == n53) (∃ (n54 : Int), w50.cell? (((⟨g21, 0, none⟩ : Addr).add 4).add 0) = some (.int .i64 n54) ∧ ∃ (n55 : Int), w50.cell? (((⟨g23, 0, none⟩ : Addr).add 4).add 0) = some (.int .i64 n55) ∧ K (.bool (n54 == n55)) w50) (K (.bool false) w50)) (K (.bool false) w50))) (K (.bool false) w41))) (K (.bool false) w32))

def impl_SameBlock.ann : Ann := (.seq .l (.seq .l .l))

theorem impl_SameBlock.vc_eq (A0_0 : Option Addr) (n0_0 : Nat) (c0_0 : Nat) (A0_1 : Option Addr) (n0_1 : Nat) (c0_1 : Nat) (A0_2 : Option Addr) (n0_2 : Nat) (c0_2 : Nat) (x0_3 : Int) (x0_4 : Int) (A1_0 : Option Addr) (n1_0 : Nat) (c1_0 : Nat) (A1_1 : Option Addr) (n1_1 : Nat) (c1_1 : Nat) (A1_2 : Option Addr) (n1_2 : Nat) (c1_2 : Nat) (x1_3 : Int) (x1_4 : Int) (w : World) (K : Value → World → Prop) : vcF Try.prog Try.f33 impl_SameBlock.ann [(.agg #[(.slice A0_0 n0_0 c0_0), (.slice A0_1 n0_1 c0_1), (.slice A0_2 n0_2 c0_2), (.int .i64 x0_3), (.int .i64 x0_4)]), (.agg #[(.slice A1_0 n1_0 c1_0), (.slice A1_1 n1_1 c1_1), (.slice A1_2 n1_2 c1_2), (.int .i64 x1_3), (.int .i64 x1_4)])] K w = impl_SameBlock.vc A0_0 n0_0 c0_0 A0_1 n0_1 c0_1 A0_2 n0_2 c0_2 x0_3 x0_4 A1_0 n1_0 c1_0 A1_1 n1_1 c1_1 A1_2 n1_2 c1_2 x1_3 x1_4 w K := by kernel_rfl

theorem impl_SameBlock.start {A0_0 : Option Addr} {n0_0 : Nat} {c0_0 : Nat} {A0_1 : Option Addr} {n0_1 : Nat} {c0_1 : Nat} {A0_2 : Option Addr} {n0_2 : Nat} {c0_2 : Nat} {x0_3 : Int} {x0_4 : Int} {A1_0 : Option Addr} {n1_0 : Nat} {c1_0 : Nat} {A1_1 : Option Addr} {n1_1 : Nat} {c1_1 : Nat} {A1_2 : Option Addr} {n1_2 : Nat} {c1_2 : Nat} {x1_3 : Int} {x1_4 : Int} {w : World} {K : Value → World → Prop} (h : impl_SameBlock.vc A0_0 n0_0 c0_0 A0_1 n0_1 c0_1 A0_2 n0_2 c0_2 x0_3 x0_4 A1_0 n1_0 c1_0 A1_1 n1_1 c1_1 A1_2 n1_2 c1_2 x1_3 x1_4 w K) : Cll Try.prog 33 #[(.agg #[(.slice A0_0 n0_0 c0_0), (.slice A0_1 n0_1 c0_1), (.slice A0_2 n0_2 c0_2), (.int .i64 x0_3), (.int .i64 x0_4)]), (.agg #[(.slice A1_0 n1_0 c1_0), (.slice A1_1 n1_1 c1_1), (.slice A1_2 n1_2 c1_2), (.int .i64 x1_3), (.int .i64 x1_4)])] w K :=
  vcF_sound mixed (fn := Try.f33) (by kernel_rfl) (by kernel_rfl) (an := impl_SameBlock.ann) (args := [(.agg #[(.slice A0_0 n0_0 c0_0), (.slice A0_1 n0_1 c0_1), (.slice A0_2 n0_2 c0_2), (.int .i64 x0_3), (.int .i64 x0_4)]), (.agg #[(.slice A1_0 n1_0 c1_0), (.slice A1_1 n1_1 c1_1), (.slice A1_2 n1_2 c1_2), (.int .i64 x1_3), (.int .i64 x1_4)])]) (by rw [impl_SameBlock.vc_eq]; exact h)

theorem impl_SameBlock.con {s0 : D.Block} {A0_0 : Option Addr} {c0_0 : Nat} {A0_1 : Option Addr} {c0_1 : Nat} {A0_2 : Option Addr} {c0_2 : Nat} {s1 : D.Block} {A1_0 : Option Addr} {c1_0 : Nat} {A1_1 : Option Addr} {c1_1 : Nat} {A1_2 : Option Addr} {c1_2 : Nat} {r : Bool} {w : World} (hp : M.impl_SameBlock_pre s0 s1) (hr : r = M.impl_SameBlock s0 s1) (R0_0 : Row el99 w A0_0 s0.Code) (hc0_0 : s0.Code.length ≤ c0_0) (R0_1 : RowW 96 el134 el3 w A0_1 s0.Warps) (hc0_1 : s0.Warps.length ≤ c0_1) (R0_2 : Row el3 w A0_2 s0.Memory) (hc0_2 : s0.Memory.length ≤ c0_2) (R1_0 : Row el99 w A1_0 s1.Code) (hc1_0 : s1.Code.length ≤ c1_0) (R1_1 : RowW 96 el134 el3 w A1_1 s1.Warps) (hc1_1 : s1.Warps.length ≤ c1_1) (R1_2 : Row el3 w A1_2 s1.Memory) (hc1_2 : s1.Memory.length ≤ c1_2) :
    Cll Try.prog 33 #[(.agg #[(.slice A0_0 s0.Code.length c0_0), (.slice A0_1 s0.Warps.length c0_1), (.slice A0_2 s0.Memory.length c0_2), (.int .i64 s0.Waiting), (.int .i64 s0.Phase)]), (.agg #[(.slice A1_0 s1.Code.length c1_0), (.slice A1_1 s1.Warps.length c1_1), (.slice A1_2 s1.Memory.length c1_2), (.int .i64 s1.Waiting), (.int .i64 s1.Phase)])] w (fun v_ w_ => v_ = (.bool r) ∧ Ext w w_) := by
  have H := wp.impl_SameBlock.math s0 s1 hp
  have hB := Ext.refl w
  refine impl_SameBlock.start ?_
  unfold impl_SameBlock.vc
  unfold wp.impl_SameBlock at H
  refine newBlk (fun g7_ w21 L7 P7 e22 => ?_)
  have O7 := P7
  have L7 := Nat.le_trans hB.size L7
  have hB := ethen hB e22
  refine newBlk (fun g8_ w23 L8 P8 e24 => ?_)
  have N7_8 := O7.ne L8
  have O7 := O7.ext e24
  have O8 := P8
  have L8 := Nat.le_trans hB.size L8
  have hB := ethen hB e24
  refine ⟨_, _, _, (O7.at 0 rfl rfl), ?_⟩
  refine ⟨_, _, _, (O8.at 0 rfl rfl), ?_⟩
  obtain ⟨hp27, H⟩ := H
  obtain ⟨r25, hr26⟩ : ∃ r_, r_ = M.slices_Equal_impl_Ins_impl_Ins s0.Code s1.Code := ⟨_, rfl⟩
  have H := H r25 hr26
  refine (slices_Equal_impl_Ins_impl_Ins.con hp27 hr26 (R0_0.ext hB) hc0_0 (R1_0.ext hB) hc1_0).mono ?_
  rintro _ w28 ⟨rfl, e29⟩
  have O7 := O7.ext e29
  have O8 := O8.ext e29
  have hB := ethen hB e29
  refine ⟨r25, rfl, ?_⟩
  refine bcase_mk (fun hc43 => ?_) (fun hc43 => ?_)
  · have H := (bcase_iff.1 H).1 hc43
    refine ⟨_, _, _, (O7.at 1 rfl rfl), ?_⟩
    refine ⟨_, _, _, (O8.at 1 rfl rfl), ?_⟩
    obtain ⟨hp32, H⟩ := H
    obtain ⟨r30, hr31⟩ : ∃ r_, r_ = M.slices_EqualFunc_impl_Warp_impl_Warp_impl_Warp_impl_Warp s0.Warps s1.Warps (fun z0_ z1_ => M.impl_SameWarp z0_ z1_) := ⟨_, rfl⟩
    have H := H r30 hr31
    refine (slices_EqualFunc_impl_Warp_impl_Warp_impl_Warp_impl_Warp.con hp32 hr31 (R0_1.ext hB) hc0_1 (R1_1.ext hB) hc1_1 (fun z0_ z1_ Az0_1 cz0_1 Az0_2 cz0_2 Az1_1 cz1_1 Az1_2 cz1_2 h_ w_ e_ rz0_1 lz0_1 rz0_2 lz0_2 rz1_1 lz1_1 rz1_2 lz1_2 => cllApp (l1 := [_, _]) (l2 := []) (impl_SameWarp.con h_ rfl rz0_1 lz0_1 rz0_2 lz0_2 rz1_1 lz1_1 rz1_2 lz1_2))).mono ?_
    rintro _ w33 ⟨rfl, e34⟩
    have O7 := O7.ext e34
    have O8 := O8.ext e34
    have hB := ethen hB e34
    refine ⟨r30, rfl, ?_⟩
    refine bcase_mk (fun hc42 => ?_) (fun hc42 => ?_)
    · have H := (bcase_iff.1 H).1 hc42
      refine ⟨_, _, _, (O7.at 2 rfl rfl), ?_⟩
      refine ⟨_, _, _, (O8.at 2 rfl rfl), ?_⟩
      obtain ⟨hp37, H⟩ := H
      obtain ⟨r35, hr36⟩ : ∃ r_, r_ = M.slices_Equal_int_int s0.Memory s1.Memory := ⟨_, rfl⟩
      have H := H r35 hr36
      refine (slices_Equal_int_int.con hp37 hr36 (R0_2.ext hB) hc0_2 (R1_2.ext hB) hc1_2).mono ?_
      rintro _ w38 ⟨rfl, e39⟩
      have O7 := O7.ext e39
      have O8 := O8.ext e39
      have hB := ethen hB e39
      refine ⟨r35, rfl, ?_⟩
      refine bcase_mk (fun hc41 => ?_) (fun hc41 => ?_)
      · have H := (bcase_iff.1 H).1 hc41
        refine ⟨_, (O7.at 3 rfl rfl), ?_⟩
        refine ⟨_, (O8.at 3 rfl rfl), ?_⟩
        refine bcase_mk (fun hc40 => ?_) (fun hc40 => ?_)
        · have H := (bcase_iff.1 H).1 hc40
          refine ⟨_, (O7.at 4 rfl rfl), ?_⟩
          refine ⟨_, (O8.at 4 rfl rfl), ?_⟩
          obtain rfl := hr.trans H.symm
          exact ⟨rfl, hB⟩
        · have H := (bcase_iff.1 H).2 hc40
          obtain rfl := hr.trans H.symm
          exact ⟨rfl, hB⟩
      · have H := (bcase_iff.1 H).2 hc41
        obtain rfl := hr.trans H.symm
        exact ⟨rfl, hB⟩
    · have H := (bcase_iff.1 H).2 hc42
      obtain rfl := hr.trans H.symm
      exact ⟨rfl, hB⟩
  · have H := (bcase_iff.1 H).2 hc43
    obtain rfl := hr.trans H.symm
    exact ⟨rfl, hB⟩

def laws_FnExactSameBlock.vc (A0_0 : Option Addr) (n0_0 : Nat) (c0_0 : Nat) (A0_1 : Option Addr) (n0_1 : Nat) (c0_1 : Nat) (A0_2 : Option Addr) (n0_2 : Nat) (c0_2 : Nat) (x0_3 : Int) (x0_4 : Int) (A1_0 : Option Addr) (n1_0 : Nat) (c1_0 : Nat) (A1_1 : Option Addr) (n1_1 : Nat) (c1_1 : Nat) (A1_2 : Option Addr) (n1_2 : Nat) (c1_2 : Nat) (x1_3 : Int) (x1_4 : Int) (w : World) (K : Value → World → Prop) : Prop :=
  newK w (.cells #[(.slice A0_0 n0_0 c0_0), (.slice A0_1 n0_1 c0_1), (.slice A0_2 n0_2 c0_2), (.int .i64 x0_3), (.int .i64 x0_4)] 57) fun g21 w22 => newK w22 (.cells #[(.slice A1_0 n1_0 c1_0), (.slice A1_1 n1_1 c1_1), (.slice A1_2 n1_2 c1_2), (.int .i64 x1_3), (.int .i64 x1_4)] 57) fun g23 w24 => ∃ (A25 : Option Addr) (n26 : Nat) (c27 : Nat), w24.cell? ((⟨g21, 0, none⟩ : Addr).add 0) = some (.slice A25 n26 c27) ∧ ∃ (A28 : Option Addr) (n29 : Nat) (c30 : Nat), w24.cell? ((⟨g21, 0, none⟩ : Addr).add 1) = some (.slice A28 n29 c30) ∧ ∃ (A31 : Option Addr) (n32 : Nat) (c33 : Nat), w24.cell? ((⟨g21, 0, none⟩ : Addr).add 2) = some (.slice A31 n32 c33) ∧ ∃ (n34 : Int), w24.cell? ((⟨g21, 0, none⟩ : Addr).add 3) = some (.int .i64 n34) ∧ ∃ (n35 : Int), w24.cell? ((⟨g21, 0, none⟩ : Addr).add 4) = some (.int .i64 n35) ∧ Cll Try.prog 34 #[(.agg #[(.slice A25 n26 c27), (.slice A28 n29 c30), (.slice A31 n32 c33), (.int .i64 n34), (.int .i64 n35)]), (.int .i64 1048576)] w24 fun v36 w37 => (∃ (n38 : Int), v36 = (.int .i64 n38) ∧ bcase (decide (n38 < 0)) (K (.bool true) w37) (∃ (A39 : Option Addr) (n40 : Nat) (c41 : Nat), w37.cell? ((⟨g23, 0, none⟩ : Addr).add 0) = some (.slice A39 n40 c41) ∧ ∃ (A42 : Option Addr) (n43 : Nat) (c44 : Nat), w37.cell? ((⟨g23, 0, none⟩ : Addr).add 1) = some (.slice A42 n43 c44) ∧ ∃ (A45 : Option Addr) (n46 : Nat) (c47 : Nat), w37.cell? ((⟨g23, 0, none⟩ : Addr).add 2) = some (.slice A45 n46 c47) ∧ ∃ (n48 : Int), w37.cell? ((⟨g23, 0, none⟩ : Addr).add 3) = some (.int .i64 n48) ∧ ∃ (n49 : Int), w37.cell? ((⟨g23, 0, none⟩ : Addr).add 4) = some (.int .i64 n49) ∧ Cll Try.prog 34 #[(.agg #[(.slice A39 n40 c41), (.slice A42 n43 c44), (.slice A45 n46 c47), (.int .i64 n48), (.int .i64 n49)]), (.int .i64 n38)] w37 fun v50 w51 => (∃ (n52 : Int), v50 = (.int .i64 n52) ∧ bcase (decide (n52 < 0)) (K (.bool true) w51) ((∃ M53 : Nat → Prop, ∃ (A54 : Option Addr) (n55 : Nat) (c56 : Nat), (¬ M53 ((⟨g21, 0, none⟩ : Addr)).block ∧ w51.cell? ((⟨g21, 0, none⟩ : Addr).add 0) = some (.slice A54 n55 c56)) ∧ ∃ (A57 : Option Addr) (n58 : Nat) (c59 : Nat), (¬ M53 ((⟨g21, 0, none⟩ : Addr)).block ∧ w51.cell? ((⟨g21, 0, none⟩ : Addr).add 1) = some (.slice A57 n58 c59)) ∧ ∃ (A60 : Option Addr) (n61 : Nat) (c62 : Nat), (¬ M53 ((⟨g21, 0, none⟩ : Addr)).block ∧ w51.cell? ((⟨g21, 0, none⟩ : Addr).add 2) = some (.slice A60 n61 c62)) ∧ ∃ (n63 : Int), (¬ M53 ((⟨g21, 0, none⟩ : Addr)).block ∧ w51.cell? ((⟨g21, 0, none⟩ : Addr).add 3) = some (.int .i64 n63)) ∧ ∃ (n64 : Int), (¬ M53 ((⟨g21, 0, none⟩ : Addr)).block ∧ w51.cell? ((⟨g21, 0, none⟩ : Addr).add 4) = some (.int .i64 n64)) ∧ ∃ (A65 : Option Addr) (n66 : Nat) (c67 : Nat), (¬ M53 ((⟨g23, 0, none⟩ : Addr)).block ∧ w51.cell? ((⟨g23, 0, none⟩ : Addr).add 0) = some (.slice A65 n66 c67)) ∧ ∃ (A68 : Option Addr) (n69 : Nat) (c70 : Nat), (¬ M53 ((⟨g23, 0, none⟩ : Addr)).block ∧ w51.cell? ((⟨g23, 0, none⟩ : Addr).add 1) = some (.slice A68 n69 c70)) ∧ ∃ (A71 : Option Addr) (n72 : Nat) (c73 : Nat), (¬ M53 ((⟨g23, 0, none⟩ : Addr)).block ∧ w51.cell? ((⟨g23, 0, none⟩ : Addr).add 2) = some (.slice A71 n72 c73)) ∧ ∃ (n74 : Int), (¬ M53 ((⟨g23, 0, none⟩ : Addr)).block ∧ w51.cell? ((⟨g23, 0, none⟩ : Addr).add 3) = some (.int .i64 n74)) ∧ ∃ (n75 : Int), (¬ M53 ((⟨g23, 0, none⟩ : Addr)).block ∧ w51.cell? ((⟨g23, 0, none⟩ : Addr).add 4) = some (.int .i64 n75)) ∧ Cll Try.prog 36 #[(.agg #[(.slice A54 n55 c56), (.slice A57 n58 c59), (.slice A60 n61 c62), (.int .i64 n63), (.int .i64 n64)])] w51.drew fun v76 w77 => (∃ (A78 : Option Addr) (n79 : Nat) (c80 : Nat), True ∧ ∃ (A81 : Option Addr) (n82 : Nat) (c83 : Nat), True ∧ ∃ (A84 : Option Addr) (n85 : Nat) (c86 : Nat), True ∧ ∃ (n87 : Int), True ∧ ∃ (n88 : Int), True ∧ v76 = (.agg #[(.slice A78 n79 c80), (.slice A81 n82 c83), (.slice A84 n85 c86), (.int .i64 n87), (.int .i64 n88)]) ∧ SameBut M53 w51 w77 ∧ Cll Try.prog 36 #[(.agg #[(.slice A65 n66 c67), (.slice A68 n69 c70), (.slice A71 n72 c73), (.int .i64 n74), (.int .i64 n75)])] w77 fun v89 w90 => (∃ (A91 : Option Addr) (n92 : Nat) (c93 : Nat), True ∧ ∃ (A94 : Option Addr) (n95 : Nat) (c96 : Nat), True ∧ ∃ (A97 : Option Addr) (n98 : Nat) (c99 : Nat), True ∧ ∃ (n100 : Int), True ∧ ∃ (n101 : Int), True ∧ v89 = (.agg #[(.slice A91 n92 c93), (.slice A94 n95 c96), (.slice A97 n98 c99), (.int .i64 n100), (.int .i64 n101)]) ∧ SameBut M53 w51 w90 ∧ Cll Try.prog 35 #[(.agg #[(.slice A78 n79 c80), (.slice A81 n82 c83), (.slice A84 n85 c86), (.int .i64 n87), (.int .i64 n88)]), (.agg #[(.slice A91 n92 c93), (.slice A94 n95 c96), (.slice A97 n98 c99), (.int .i64 n100), (.int .i64 n101)])] w90 fun v102 w103 => (∃ (b104 : Bool), v102 = (.bool b104) ∧ SameBut M53 w51 w103 ∧ ∃ (A105 : Option Addr) (n106 : Nat) (c107 : Nat), w103.cell? ((⟨g21, 0, none⟩ : Addr).add 0) = some (.slice A105 n106 c107) ∧ ∃ (A108 : Option Addr) (n109 : Nat) (c110 : Nat), w103.cell? ((⟨g21, 0, none⟩ : Addr).add 1) = some (.slice A108 n109 c110) ∧ ∃ (A111 : Option Addr) (n112 : Nat) (c113 : Nat), w103.cell? ((⟨g21, 0, none⟩ : Addr).add 2) = some (.slice A111 n112 c113) ∧ ∃ (n114 : Int), w103.cell? ((⟨g21, 0, none⟩ : Addr).add 3) = some (.int .i64 n114) ∧ ∃ (n115 : Int), w103.cell? ((⟨g21, 0, none⟩ : Addr).add 4) = some (.int .i64 n115) ∧ Cll Try.prog 36 #[(.agg #[(.slice A105 n106 c107), (.slice A108 n109 c110), (.slice A111 n112 c113), (.int .i64 n114), (.int .i64 n115)])] w103 fun v116 w117 => (∃ (A118 : Option Addr) (n119 : Nat) (c120 : Nat), True ∧ ∃ (A121 : Option Addr) (n122 : Nat) (c123 : Nat), True ∧ ∃ (A124 : Option Addr) (n125 : Nat) (c126 : Nat), True ∧ ∃ (n127 : Int), True ∧ ∃ (n128 : Int), True ∧ v116 = (.agg #[(.slice A118 n119 c120), (.slice A121 n122 c123), (.slice A124 n125 c126), (.int .i64 n127), (.int .i64 n128)]) ∧ newK w117 (.cells #[(.slice none 0 0), (.slice none 0 0), (.slice none 0 0), (.int .i64 0), (.int .i64 0)] 48) fun g129 w130 => stCells (⟨g129, 0, none⟩ : Addr) [(.slice A118 n119 c120), (.slice A121 n122 c123), (.slice A124 n125 c126), (.int .i64 n127), (.int .i64 n128)] 0 w130 fun w131 => ∃ (A132 : Option Addr) (n133 : Nat) (c134 : Nat), w131.cell? ((⟨g23, 0, none⟩ : Addr).add 0) = some (.slice A132 n133 c134) ∧ ∃ (A135 : Option Addr) (n136 : Nat) (c137 : Nat), w131.cell? ((⟨g23, 0, none⟩ : Addr).add 1) = some (.slice A135 n136 c137) ∧ ∃ (A138 : Option Addr) (n139 : Nat) (c140 : Nat), w131.cell? ((⟨g23, 0, none⟩ : Addr).add 2) = some (.slice A138 n139 c140) ∧ ∃ (n141 : Int), w131.cell? ((⟨g23, 0, none⟩ : Addr).add 3) = some (.int .i64 n141) ∧ ∃ (n142 : Int), w131.cell? ((⟨g23, 0, none⟩ : Addr).add 4) = some (.int .i64 n142) ∧ Cll Try.prog 36 #[(.agg #[(.slice A132 n133 c134), (.slice A135 n136 c137), (.slice A138 n139 c140), (.int .i64 n141), (.int .i64 n142)])] w131 fun v143 w144 => (∃ (A145 : Option Addr) (n146 : Nat) (c147 : Nat), True ∧ ∃ (A148 : Option Addr) (n149 : Nat) (c150 : Nat), True ∧ ∃ (A151 : Option Addr) (n152 : Nat) (c153 : Nat), True ∧ ∃ (n154 : Int), True ∧ ∃ (n155 : Int), True ∧ v143 = (.agg #[(.slice A145 n146 c147), (.slice A148 n149 c150), (.slice A151 n152 c153), (.int .i64 n154), (.int .i64 n155)]) ∧ newK w144 (.cells #[(.slice none 0 0), (.slice none 0 0), (.slice none 0 0), (.int .i64 0), (.int .i64 0)] 48) fun g156 w157 => stCells (⟨g156, 0, none⟩ : Addr) [(.slice A145 n146 c147), (.slice A148 n149 c150), (.slice A151 n152 c153), (.int .i64 n154), (.int .i64 n155)] 0 w157 fun w158 => ∃ (A159 : Option Addr) (n160 : Nat) (c161 : Nat), w158.cell? ((⟨g129, 0, none⟩ : Addr).add 0) = some (.slice A159 n160 c161) ∧ ∃ (A162 : Option Addr) (n163 : Nat) (c164 : Nat), w158.cell? ((⟨g129, 0, none⟩ : Addr).add 1) = some (.slice A162 n163 c164) ∧ ∃ (A165 : Option Addr) (n166 : Nat) (c167 : Nat), w158.cell? ((⟨g129, 0, none⟩ : Addr).add 2) = some (.slice A165 n166 c167) ∧ ∃ (n168 : Int), w158.cell? ((⟨g129, 0, none⟩ : Addr).add 3) = some (.int .i64 n168) ∧ ∃ (n169 : Int), w158.cell? ((⟨g129, 0, none⟩ : Addr).add 4) = some (.int .i64 n169) ∧ ∃ (A170 : Option Addr) (n171 : Nat) (c172 : Nat), w158.cell? ((⟨g156, 0, none⟩ : Addr).add 0) = some (.slice A170 n171 c172) ∧ ∃ (A173 : Option Addr) (n174 : Nat) (c175 : Nat), w158.cell? ((⟨g156, 0, none⟩ : Addr).add 1) = some (.slice A173 n174 c175) ∧ ∃ (A176 : Option Addr) (n177 : Nat) (c178 : Nat), w158.cell? ((⟨g156, 0, none⟩ : Addr).add 2) = some (.slice A176 n177 c178) ∧ ∃ (n179 : Int), w158.cell? ((⟨g156, 0, none⟩ : Addr).add 3) = some (.int .i64 n179) ∧ ∃ (n180 : Int), w158.cell? ((⟨g156, 0, none⟩ : Addr).add 4) = some (.int .i64 n180) ∧ Cll Try.prog 33 #[(.agg #[(.slice A159 n160 c161), (.slice A162 n163 c164), (.slice A165 n166 c167), (.int .i64 n168), (.int .i64 n169)]), (.agg #[(.slice A170 n171 c172), (.slice A173 n174 c175), (.slice A176 n177 c178), (.int .i64 n179), (.int .i64 n180)])] w158 fun v181 w182 => (∃ (b183 : Bool), v181 = (.bool b183) ∧ bcase (!(b183 == b104)) (K (.bool false) w182) ((∃ M184 : Nat → Prop, ∃ (A185 : Option Addr) (n186 : Nat) (c187 : Nat), (¬ M184 ((⟨g129, 0, none⟩ : Addr)).block ∧ w182.cell? ((⟨g129, 0, none⟩ : Addr).add 0) = some (.slice A185 n186 c187)) ∧ ∃ (A188 : Option Addr) (n189 : Nat) (c190 : Nat), (¬ M184 ((⟨g129, 0, none⟩ : Addr)).block ∧ w182.cell? ((⟨g129, 0, none⟩ : Addr).add 1) = some (.slice A188 n189 c190)) ∧ ∃ (A191 : Option Addr) (n192 : Nat) (c193 : Nat), (¬ M184 ((⟨g129, 0, none⟩ : Addr)).block ∧ w182.cell? ((⟨g129, 0, none⟩ : Addr).add 2) = some (.slice A191 n192 c193)) ∧ ∃ (n194 : Int), (¬ M184 ((⟨g129, 0, none⟩ : Addr)).block ∧ w182.cell? ((⟨g129, 0, none⟩ : Addr).add 3) = some (.int .i64 n194)) ∧ ∃ (n195 : Int), (¬ M184 ((⟨g129, 0, none⟩ : Addr)).block ∧ w182.cell? ((⟨g129, 0, none⟩ : Addr).add 4) = some (.int .i64 n195)) ∧ ∃ (A196 : Option Addr) (n197 : Nat) (c198 : Nat), (¬ M184 ((⟨g21, 0, none⟩ : Addr)).block ∧ w182.cell? ((⟨g21, 0, none⟩ : Addr).add 0) = some (.slice A196 n197 c198)) ∧ ∃ (A199 : Option Addr) (n200 : Nat) (c201 : Nat), (¬ M184 ((⟨g21, 0, none⟩ : Addr)).block ∧ w182.cell? ((⟨g21, 0, none⟩ : Addr).add 1) = some (.slice A199 n200 c201)) ∧ ∃ (A202 : Option Addr) (n203 : Nat) (c204 : Nat), (¬ M184 ((⟨g21, 0, none⟩ : Addr)).block ∧ w182.cell? ((⟨g21, 0, none⟩ : Addr).add 2) = some (.slice A202 n203 c204)) ∧ ∃ (n205 : Int), (¬ M184 ((⟨g21, 0, none⟩ : Addr)).block ∧ w182.cell? ((⟨g21, 0, none⟩ : Addr).add 3) = some (.int .i64 n205)) ∧ ∃ (n206 : Int), (¬ M184 ((⟨g21, 0, none⟩ : Addr)).block ∧ w182.cell? ((⟨g21, 0, none⟩ : Addr).add 4) = some (.int .i64 n206)) ∧ Cll Try.prog 36 #[(.agg #[(.slice A196 n197 c198), (.slice A199 n200 c201), (.slice A202 n203 c204), (.int .i64 n205), (.int .i64 n206)])] w182.drew fun v207 w208 => (∃ (A209 : Option Addr) (n210 : Nat) (c211 : Nat), True ∧ ∃ (A212 : Option Addr) (n213 : Nat) (c214 : Nat), True ∧ ∃ (A215 : Option Addr) (n216 : Nat) (c217 : Nat), True ∧ ∃ (n218 : Int), True ∧ ∃ (n219 : Int), True ∧ v207 = (.agg #[(.slice A209 n210 c211), (.slice A212 n213 c214), (.slice A215 n216 c217), (.int .i64 n218), (.int .i64 n219)]) ∧ SameBut M184 w182 w208 ∧ Cll Try.prog 37 #[(.agg #[(.slice A185 n186 c187), (.slice A188 n189 c190), (.slice A191 n192 c193), (.int .i64 n194), (.int .i64 n195)]), (.agg #[(.slice A209 n210 c211), (.slice A212 n213 c214), (.slice A215 n216 c217), (.int .i64 n218), (.int .i64 n219)])] w208 fun v220 w221 => (∃ (b222 : Bool), v220 = (.bool b222) ∧ SameBut M184 w182 w221 ∧ bcase (!b222) (K (.bool false) w221) ((∃ M223 : Nat → Prop, ∃ (A224 : Option Addr) (n225 : Nat) (c226 : Nat), (¬ M223 ((⟨g156, 0, none⟩ : Addr)).block ∧ w221.cell? ((⟨g156, 0, none⟩ : Addr).add 0) = some (.slice A224 n225 c226)) ∧ ∃ (A227 : Option Addr) (n228 : Nat) (c229 : Nat), (¬ M223 ((⟨g156, 0, none⟩ : Addr)).block ∧ w221.cell? ((⟨g156, 0, none⟩ : Addr).add 1) = some (.slice A227 n228 c229)) ∧ ∃ (A230 : Option Addr) (n231 : Nat) (c232 : Nat), (¬ M223 ((⟨g156, 0, none⟩ : Addr)).block ∧ w221.cell? ((⟨g156, 0, none⟩ : Addr).add 2) = some (.slice A230 n231 c232)) ∧ ∃ (n233 : Int), (¬ M223 ((⟨g156, 0, none⟩ : Addr)).block ∧ w221.cell? ((⟨g156, 0, none⟩ : Addr).add 3) = some (.int .i64 n233)) ∧ ∃ (n234 : Int), (¬ M223 ((⟨g156, 0, none⟩ : Addr)).block ∧ w221.cell? ((⟨g156, 0, none⟩ : Addr).add 4) = some (.int .i64 n234)) ∧ ∃ (A235 : Option Addr) (n236 : Nat) (c237 : Nat), (¬ M223 ((⟨g23, 0, none⟩ : Addr)).block ∧ w221.cell? ((⟨g23, 0, none⟩ : Addr).add 0) = some (.slice A235 n236 c237)) ∧ ∃ (A238 : Option Addr) (n239 : Nat) (c240 : Nat), (¬ M223 ((⟨g23, 0, none⟩ : Addr)).block ∧ w221.cell? ((⟨g23, 0, none⟩ : Addr).add 1) = some (.slice A238 n239 c240)) ∧ ∃ (A241 : Option Addr) (n242 : Nat) (c243 : Nat), (¬ M223 ((⟨g23, 0, none⟩ : Addr)).block ∧ w221.cell? ((⟨g23, 0, none⟩ : Addr).add 2) = some (.slice A241 n242 c243)) ∧ ∃ (n244 : Int), (¬ M223 ((⟨g23, 0, none⟩ : Addr)).block ∧ w221.cell? ((⟨g23, 0, none⟩ : Addr).add 3) = some (.int .i64 n244)) ∧ ∃ (n245 : Int), (¬ M223 ((⟨g23, 0, none⟩ : Addr)).block ∧ w221.cell? ((⟨g23, 0, none⟩ : Addr).add 4) = some (.int .i64 n245)) ∧ Cll Try.prog 36 #[(.agg #[(.slice A235 n236 c237), (.slice A238 n239 c240), (.slice A241 n242 c243), (.int .i64 n244), (.int .i64 n245)])] w221.drew fun v246 w247 => (∃ (A248 : Option Addr) (n249 : Nat) (c250 : Nat), True ∧ ∃ (A251 : Option Addr) (n252 : Nat) (c253 : Nat), True ∧ ∃ (A254 : Option Addr) (n255 : Nat) (c256 : Nat), True ∧ ∃ (n257 : Int), True ∧ ∃ (n258 : Int), True ∧ v246 = (.agg #[(.slice A248 n249 c250), (.slice A251 n252 c253), (.slice A254 n255 c256), (.int .i64 n257), (.int .i64 n258)]) ∧ SameBut M223 w221 w247 ∧ Cll Try.prog 37 #[(.agg #[(.slice A224 n225 c226), (.slice A227 n228 c229), (.slice A230 n231 c232), (.int .i64 n233), (.int .i64 n234)]), (.agg #[(.slice A248 n249 c250), (.slice A251 n252 c253), (.slice A254 n255 c256), (.int .i64 n257), (.int .i64 n258)])] w247 fun v259 w260 => (∃ (b261 : Bool), v259 = (.bool b261) ∧ SameBut M223 w221 w260 ∧ bcase (!b261) (K (.bool false) w260) (K (.bool true) w260))))))))))))))))))))

def laws_FnExactSameBlock.ann : Ann := (.seq .l (.seq .l (.seq .l (.seq (.seq .l (.two (.seq .l .l) .l)) (.seq .l (.seq (.seq .l (.two (.seq .l .l) .l)) (.seq .l (.seq .l (.seq .l (.seq .l (.seq (.seq .l (.two (.seq .l .l) .l)) (.seq (.seq .l (.two (.seq .l .l) .l)) (.seq (.seq .l (.two (.seq .l .l) .l)) (.seq .l .l))))))))))))))

theorem laws_FnExactSameBlock.vc_eq (A0_0 : Option Addr) (n0_0 : Nat) (c0_0 : Nat) (A0_1 : Option Addr) (n0_1 : Nat) (c0_1 : Nat) (A0_2 : Option Addr) (n0_2 : Nat) (c0_2 : Nat) (x0_3 : Int) (x0_4 : Int) (A1_0 : Option Addr) (n1_0 : Nat) (c1_0 : Nat) (A1_1 : Option Addr) (n1_1 : Nat) (c1_1 : Nat) (A1_2 : Option Addr) (n1_2 : Nat) (c1_2 : Nat) (x1_3 : Int) (x1_4 : Int) (w : World) (K : Value → World → Prop) : vcF Try.prog Try.f7 laws_FnExactSameBlock.ann [(.agg #[(.slice A0_0 n0_0 c0_0), (.slice A0_1 n0_1 c0_1), (.slice A0_2 n0_2 c0_2), (.int .i64 x0_3), (.int .i64 x0_4)]), (.agg #[(.slice A1_0 n1_0 c1_0), (.slice A1_1 n1_1 c1_1), (.slice A1_2 n1_2 c1_2), (.int .i64 x1_3), (.int .i64 x1_4)])] K w = laws_FnExactSameBlock.vc A0_0 n0_0 c0_0 A0_1 n0_1 c0_1 A0_2 n0_2 c0_2 x0_3 x0_4 A1_0 n1_0 c1_0 A1_1 n1_1 c1_1 A1_2 n1_2 c1_2 x1_3 x1_4 w K := by kernel_rfl

theorem laws_FnExactSameBlock.start {A0_0 : Option Addr} {n0_0 : Nat} {c0_0 : Nat} {A0_1 : Option Addr} {n0_1 : Nat} {c0_1 : Nat} {A0_2 : Option Addr} {n0_2 : Nat} {c0_2 : Nat} {x0_3 : Int} {x0_4 : Int} {A1_0 : Option Addr} {n1_0 : Nat} {c1_0 : Nat} {A1_1 : Option Addr} {n1_1 : Nat} {c1_1 : Nat} {A1_2 : Option Addr} {n1_2 : Nat} {c1_2 : Nat} {x1_3 : Int} {x1_4 : Int} {w : World} {K : Value → World → Prop} (h : laws_FnExactSameBlock.vc A0_0 n0_0 c0_0 A0_1 n0_1 c0_1 A0_2 n0_2 c0_2 x0_3 x0_4 A1_0 n1_0 c1_0 A1_1 n1_1 c1_1 A1_2 n1_2 c1_2 x1_3 x1_4 w K) : Cll Try.prog 7 #[(.agg #[(.slice A0_0 n0_0 c0_0), (.slice A0_1 n0_1 c0_1), (.slice A0_2 n0_2 c0_2), (.int .i64 x0_3), (.int .i64 x0_4)]), (.agg #[(.slice A1_0 n1_0 c1_0), (.slice A1_1 n1_1 c1_1), (.slice A1_2 n1_2 c1_2), (.int .i64 x1_3), (.int .i64 x1_4)])] w K :=
  vcF_sound mixed (fn := Try.f7) (by kernel_rfl) (by kernel_rfl) (an := laws_FnExactSameBlock.ann) (args := [(.agg #[(.slice A0_0 n0_0 c0_0), (.slice A0_1 n0_1 c0_1), (.slice A0_2 n0_2 c0_2), (.int .i64 x0_3), (.int .i64 x0_4)]), (.agg #[(.slice A1_0 n1_0 c1_0), (.slice A1_1 n1_1 c1_1), (.slice A1_2 n1_2 c1_2), (.int .i64 x1_3), (.int .i64 x1_4)])]) (by rw [laws_FnExactSameBlock.vc_eq]; exact h)

theorem laws_FnExactSameBlock.con {s0 : D.Block} {A0_0 : Option Addr} {c0_0 : Nat} {A0_1 : Option Addr} {c0_1 : Nat} {A0_2 : Option Addr} {c0_2 : Nat} {s1 : D.Block} {A1_0 : Option Addr} {c1_0 : Nat} {A1_1 : Option Addr} {c1_1 : Nat} {A1_2 : Option Addr} {c1_2 : Nat} {r : Bool} {w : World} (hp : M.laws_FnExactSameBlock_pre s0 s1) (hr : r = M.laws_FnExactSameBlock s0 s1) (R0_0 : Row el109 w A0_0 s0.Code) (hc0_0 : s0.Code.length ≤ c0_0) (R0_1 : RowW 138 el158 el3 w A0_1 s0.Warps) (hc0_1 : s0.Warps.length ≤ c0_1) (R0_2 : Row el3 w A0_2 s0.Memory) (hc0_2 : s0.Memory.length ≤ c0_2) (R1_0 : Row el109 w A1_0 s1.Code) (hc1_0 : s1.Code.length ≤ c1_0) (R1_1 : RowW 138 el158 el3 w A1_1 s1.Warps) (hc1_1 : s1.Warps.length ≤ c1_1) (R1_2 : Row el3 w A1_2 s1.Memory) (hc1_2 : s1.Memory.length ≤ c1_2) :
    Cll Try.prog 7 #[(.agg #[(.slice A0_0 s0.Code.length c0_0), (.slice A0_1 s0.Warps.length c0_1), (.slice A0_2 s0.Memory.length c0_2), (.int .i64 s0.Waiting), (.int .i64 s0.Phase)]), (.agg #[(.slice A1_0 s1.Code.length c1_0), (.slice A1_1 s1.Warps.length c1_1), (.slice A1_2 s1.Memory.length c1_2), (.int .i64 s1.Waiting), (.int .i64 s1.Phase)])] w (fun v_ w_ => v_ = (.bool r) ∧ Ext w w_) := by
  have H := wp.laws_FnExactSameBlock.math s0 s1 hp
  have hB := Ext.refl w
  refine laws_FnExactSameBlock.start ?_
  unfold laws_FnExactSameBlock.vc
  unfold wp.laws_FnExactSameBlock at H
  refine newBlk (fun g7_ w21 L7 P7 e22 => ?_)
  have O7 := P7
  have L7 := Nat.le_trans hB.size L7
  have hB := ethen hB e22
  refine newBlk (fun g8_ w23 L8 P8 e24 => ?_)
  have N7_8 := O7.ne L8
  have O7 := O7.ext e24
  have O8 := P8
  have L8 := Nat.le_trans hB.size L8
  have hB := ethen hB e24
  refine ⟨_, _, _, (O7.at 0 rfl rfl), ?_⟩
  refine ⟨_, _, _, (O7.at 1 rfl rfl), ?_⟩
  refine ⟨_, _, _, (O7.at 2 rfl rfl), ?_⟩
  refine ⟨_, (O7.at 3 rfl rfl), ?_⟩
  refine ⟨_, (O7.at 4 rfl rfl), ?_⟩
  obtain ⟨hp27, H⟩ := H
  obtain ⟨r25, hr26⟩ : ∃ r_, r_ = M.laws_szBlock s0 1048576 := ⟨_, rfl⟩
  have H := H r25 hr26
  refine (laws_szBlock.con hp27 hr26 (R0_0.ext hB) hc0_0 (R0_1.ext hB) hc0_1 (R0_2.ext hB) hc0_2).mono ?_
  rintro _ w28 ⟨rfl, e29⟩
  have O7 := O7.ext e29
  have O8 := O8.ext e29
  have hB := ethen hB e29
  refine ⟨r25, rfl, ?_⟩
  refine bcase_mk (fun hc142 => ?_) (fun hc142 => ?_)
  · have H := (bcase_iff.1 H).1 hc142
    obtain rfl := hr.trans H.symm
    exact ⟨rfl, hB⟩
  · have H := (bcase_iff.1 H).2 hc142
    refine ⟨_, _, _, (O8.at 0 rfl rfl), ?_⟩
    refine ⟨_, _, _, (O8.at 1 rfl rfl), ?_⟩
    refine ⟨_, _, _, (O8.at 2 rfl rfl), ?_⟩
    refine ⟨_, (O8.at 3 rfl rfl), ?_⟩
    refine ⟨_, (O8.at 4 rfl rfl), ?_⟩
    obtain ⟨hp32, H⟩ := H
    obtain ⟨r30, hr31⟩ : ∃ r_, r_ = M.laws_szBlock s1 r25 := ⟨_, rfl⟩
    have H := H r30 hr31
    refine (laws_szBlock.con hp32 hr31 (R1_0.ext hB) hc1_0 (R1_1.ext hB) hc1_1 (R1_2.ext hB) hc1_2).mono ?_
    rintro _ w33 ⟨rfl, e34⟩
    have O7 := O7.ext e34
    have O8 := O8.ext e34
    have hB := ethen hB e34
    refine ⟨r30, rfl, ?_⟩
    refine bcase_mk (fun hc141 => ?_) (fun hc141 => ?_)
    · have H := (bcase_iff.1 H).1 hc141
      obtain rfl := hr.trans H.symm
      exact ⟨rfl, hB⟩
    · have H := (bcase_iff.1 H).2 hc141
      refine ⟨(fun _ => False), ?_⟩
      refine ⟨_, _, _, ⟨(fun h_ => h_), (O7.at 0 rfl rfl)⟩, ?_⟩
      refine ⟨_, _, _, ⟨(fun h_ => h_), (O7.at 1 rfl rfl)⟩, ?_⟩
      refine ⟨_, _, _, ⟨(fun h_ => h_), (O7.at 2 rfl rfl)⟩, ?_⟩
      refine ⟨_, ⟨(fun h_ => h_), (O7.at 3 rfl rfl)⟩, ?_⟩
      refine ⟨_, ⟨(fun h_ => h_), (O7.at 4 rfl rfl)⟩, ?_⟩
      refine ⟨_, _, _, ⟨(fun h_ => h_), (O8.at 0 rfl rfl)⟩, ?_⟩
      refine ⟨_, _, _, ⟨(fun h_ => h_), (O8.at 1 rfl rfl)⟩, ?_⟩
      refine ⟨_, _, _, ⟨(fun h_ => h_), (O8.at 2 rfl rfl)⟩, ?_⟩
      refine ⟨_, ⟨(fun h_ => h_), (O8.at 3 rfl rfl)⟩, ?_⟩
      refine ⟨_, ⟨(fun h_ => h_), (O8.at 4 rfl rfl)⟩, ?_⟩
      have hS35 := Chg.refl (fun _ => False) w33
      have O7 := O7.ext (Ext.drew _)
      have O8 := O8.ext (Ext.drew _)
      have hB := ethen hB (Ext.drew _)
      have hS35 := hS35.then (Ext.drew _)
      obtain ⟨hp38, H⟩ := H
      obtain ⟨r36, hr37⟩ : ∃ r_, r_ = M.laws_toBlock s0 := ⟨_, rfl⟩
      have H := H r36 hr37
      refine (laws_toBlock.con hp38 hr37 (R0_0.ext hB) hc0_0 (R0_1.ext hB) hc0_1 (R0_2.ext hB) hc0_2).mono ?_
      rintro _ w39 ⟨A41, c42, A43, c44, F47, A45, c46, rfl, P9, P10, P11, N10_11, e40⟩
      have N9_7 := P9.apart_old O7.lt
      have N9_8 := P9.apart_old O8.lt
      have N10_7 := P10.new_disbox O7 (Nat.le_refl _)
      have N10_8 := P10.new_disbox O8 (Nat.le_refl _)
      have N11_7 := P11.apart_old O7.lt
      have N11_8 := P11.apart_old O8.lt
      have O7 := O7.ext e40
      have O8 := O8.ext e40
      have LB9 := (P9.mono hS35.size).low
      have LB10 := (P10.mono hS35.size).lowW
      have LB11 := (P11.mono hS35.size).low
      have O9 := P9.mono hB.size
      have O10 := P10.mono hB.size
      have O11 := P11.mono hB.size
      have hB := ethen hB e40
      have hS35 := hS35.then e40
      refine ⟨A41, r36.Code.length, c42, trivial, ?_⟩
      refine ⟨A43, r36.Warps.length, c44, trivial, ?_⟩
      refine ⟨A45, r36.Memory.length, c46, trivial, ?_⟩
      refine ⟨r36.Waiting, trivial, ?_⟩
      refine ⟨r36.Phase, trivial, ?_⟩
      refine ⟨rfl, ?_⟩
      refine ⟨sameBut_chg hS35, ?_⟩
      obtain ⟨hp50, H⟩ := H
      obtain ⟨r48, hr49⟩ : ∃ r_, r_ = M.laws_toBlock s1 := ⟨_, rfl⟩
      have H := H r48 hr49
      refine (laws_toBlock.con hp50 hr49 (R1_0.ext hB) hc1_0 (R1_1.ext hB) hc1_1 (R1_2.ext hB) hc1_2).mono ?_
      rintro _ w51 ⟨A53, c54, A55, c56, F59, A57, c58, rfl, P12, P13, P14, N13_14, e52⟩
      have N12_7 := P12.apart_old O7.lt
      have N12_8 := P12.apart_old O8.lt
      have N9_12 := Own.apart2_new O9 P12 (Nat.le_refl _)
      have N10_12 := O10.dis_new P12 (Nat.le_refl _)
      have N11_12 := Own.apart2_new O11 P12 (Nat.le_refl _)
      have N13_7 := P13.new_disbox O7 (Nat.le_refl _)
      have N13_8 := P13.new_disbox O8 (Nat.le_refl _)
      have N13_9 := P13.new_dis O9 (Nat.le_refl _)
      have N10_13 := O10.dis_neww P13 (Nat.le_refl _)
      have N13_11 := P13.new_dis O11 (Nat.le_refl _)
      have N14_7 := P14.apart_old O7.lt
      have N14_8 := P14.apart_old O8.lt
      have N9_14 := Own.apart2_new O9 P14 (Nat.le_refl _)
      have N10_14 := O10.dis_new P14 (Nat.le_refl _)
      have N11_14 := Own.apart2_new O11 P14 (Nat.le_refl _)
      have O7 := O7.ext e52
      have O8 := O8.ext e52
      have O9 := O9.ext e52
      have O10 := O10.ext e52
      have O11 := O11.ext e52
      have LB12 := (P12.mono hS35.size).low
      have LB13 := (P13.mono hS35.size).lowW
      have LB14 := (P14.mono hS35.size).low
      have O12 := P12.mono hB.size
      have O13 := P13.mono hB.size
      have O14 := P14.mono hB.size
      have hB := ethen hB e52
      have hS35 := hS35.then e52
      refine ⟨A53, r48.Code.length, c54, trivial, ?_⟩
      refine ⟨A55, r48.Warps.length, c56, trivial, ?_⟩
      refine ⟨A57, r48.Memory.length, c58, trivial, ?_⟩
      refine ⟨r48.Waiting, trivial, ?_⟩
      refine ⟨r48.Phase, trivial, ?_⟩
      refine ⟨rfl, ?_⟩
      refine ⟨sameBut_chg hS35, ?_⟩
      obtain ⟨hp62, H⟩ := H
      obtain ⟨r60, hr61⟩ : ∃ r_, r_ = M.spec_SameBlock r36 r48 := ⟨_, rfl⟩
      have H := H r60 hr61
      refine (spec_SameBlock.con hp62 hr61 O9.row O9.le O10.row O10.le O11.row O11.le O12.row O12.le O13.row O13.le O14.row O14.le).mono ?_
      rintro _ w63 ⟨rfl, e64⟩
      have O7 := O7.ext e64
      have O8 := O8.ext e64
      have O9 := O9.ext e64
      have O10 := O10.ext e64
      have O11 := O11.ext e64
      have O12 := O12.ext e64
      have O13 := O13.ext e64
      have O14 := O14.ext e64
      have hB := ethen hB e64
      have hS35 := hS35.then e64
      refine ⟨r60, rfl, ?_⟩
      refine ⟨sameBut_chg hS35, ?_⟩
      refine ⟨_, _, _, (O7.at 0 rfl rfl), ?_⟩
      refine ⟨_, _, _, (O7.at 1 rfl rfl), ?_⟩
      refine ⟨_, _, _, (O7.at 2 rfl rfl), ?_⟩
      refine ⟨_, (O7.at 3 rfl rfl), ?_⟩
      refine ⟨_, (O7.at 4 rfl rfl), ?_⟩
      obtain ⟨hp67, H⟩ := H
      obtain ⟨r65, hr66⟩ : ∃ r_, r_ = M.laws_toBlock s0 := ⟨_, rfl⟩
      have H := H r65 hr66
      refine (laws_toBlock.con hp67 hr66 (R0_0.ext hB) hc0_0 (R0_1.ext hB) hc0_1 (R0_2.ext hB) hc0_2).mono ?_
      rintro _ w68 ⟨A70, c71, A72, c73, F76, A74, c75, rfl, P15, P16, P17, N16_17, e69⟩
      have N15_7 := P15.apart_old O7.lt
      have N15_8 := P15.apart_old O8.lt
      have N9_15 := Own.apart2_new O9 P15 (Nat.le_refl _)
      have N10_15 := O10.dis_new P15 (Nat.le_refl _)
      have N11_15 := Own.apart2_new O11 P15 (Nat.le_refl _)
      have N12_15 := Own.apart2_new O12 P15 (Nat.le_refl _)
      have N13_15 := O13.dis_new P15 (Nat.le_refl _)
      have N14_15 := Own.apart2_new O14 P15 (Nat.le_refl _)
      have N16_7 := P16.new_disbox O7 (Nat.le_refl _)
      have N16_8 := P16.new_disbox O8 (Nat.le_refl _)
      have N16_9 := P16.new_dis O9 (Nat.le_refl _)
      have N10_16 := O10.dis_neww P16 (Nat.le_refl _)
      have N16_11 := P16.new_dis O11 (Nat.le_refl _)
      have N16_12 := P16.new_dis O12 (Nat.le_refl _)
      have N13_16 := O13.dis_neww P16 (Nat.le_refl _)
      have N16_14 := P16.new_dis O14 (Nat.le_refl _)
      have N17_7 := P17.apart_old O7.lt
      have N17_8 := P17.apart_old O8.lt
      have N9_17 := Own.apart2_new O9 P17 (Nat.le_refl _)
      have N10_17 := O10.dis_new P17 (Nat.le_refl _)
      have N11_17 := Own.apart2_new O11 P17 (Nat.le_refl _)
      have N12_17 := Own.apart2_new O12 P17 (Nat.le_refl _)
      have N13_17 := O13.dis_new P17 (Nat.le_refl _)
      have N14_17 := Own.apart2_new O14 P17 (Nat.le_refl _)
      have O7 := O7.ext e69
      have O8 := O8.ext e69
      have O9 := O9.ext e69
      have O10 := O10.ext e69
      have O11 := O11.ext e69
      have O12 := O12.ext e69
      have O13 := O13.ext e69
      have O14 := O14.ext e69
      have O15 := P15.mono hB.size
      have O16 := P16.mono hB.size
      have O17 := P17.mono hB.size
      have hB := ethen hB e69
      refine ⟨A70, r65.Code.length, c71, trivial, ?_⟩
      refine ⟨A72, r65.Warps.length, c73, trivial, ?_⟩
      refine ⟨A74, r65.Memory.length, c75, trivial, ?_⟩
      refine ⟨r65.Waiting, trivial, ?_⟩
      refine ⟨r65.Phase, trivial, ?_⟩
      refine ⟨rfl, ?_⟩
      refine newBlk (fun g18_ w77 L18 P18 e78 => ?_)
      have N7_18 := O7.ne L18
      have N8_18 := O8.ne L18
      have N9_18 := O9.apart_new L18
      have N10_18 := O10.dis_newbox L18
      have N11_18 := O11.apart_new L18
      have N12_18 := O12.apart_new L18
      have N13_18 := O13.dis_newbox L18
      have N14_18 := O14.apart_new L18
      have N15_18 := O15.apart_new L18
      have N16_18 := O16.dis_newbox L18
      have N17_18 := O17.apart_new L18
      have O7 := O7.ext e78
      have O8 := O8.ext e78
      have O9 := O9.ext e78
      have O10 := O10.ext e78
      have O11 := O11.ext e78
      have O12 := O12.ext e78
      have O13 := O13.ext e78
      have O14 := O14.ext e78
      have O15 := O15.ext e78
      have O16 := O16.ext e78
      have O17 := O17.ext e78
      have O18 := P18
      have L18 := Nat.le_trans hB.size L18
      have hB := ethen hB e78
      refine stBlk O18 (o := 0) (cs' := #[(.slice A70 r65.Code.length c71), (.slice A72 r65.Warps.length c73), (.slice A74 r65.Memory.length c75), (.int .i64 r65.Waiting), (.int .i64 r65.Phase)]) rfl rfl (Nat.le_of_ble_eq_true rfl) rfl (fun w79 P18 e80 => ?_)
      have O7_ := O7.chg e80 N7_18
      have O8_ := O8.chg e80 N8_18
      have O9_ := O9.chg e80 N9_18
      have O10_ := O10.chg e80 N10_18
      have O11_ := O11.chg e80 N11_18
      have O12_ := O12.chg e80 N12_18
      have O13_ := O13.chg e80 N13_18
      have O14_ := O14.chg e80 N14_18
      have O15_ := O15.chg e80 N15_18
      have O16_ := O16.chg e80 N16_18
      have O17_ := O17.chg e80 N17_18
      have O7 := O7_
      have O8 := O8_
      have O9 := O9_
      have O10 := O10_
      have O11 := O11_
      have O12 := O12_
      have O13 := O13_
      have O14 := O14_
      have O15 := O15_
      have O16 := O16_
      have O17 := O17_
      have hB := echg hB e80 L18
      have O18 := P18
      refine ⟨_, _, _, (O8.at 0 rfl rfl), ?_⟩
      refine ⟨_, _, _, (O8.at 1 rfl rfl), ?_⟩
      refine ⟨_, _, _, (O8.at 2 rfl rfl), ?_⟩
      refine ⟨_, (O8.at 3 rfl rfl), ?_⟩
      refine ⟨_, (O8.at 4 rfl rfl), ?_⟩
      obtain ⟨hp83, H⟩ := H
      obtain ⟨r81, hr82⟩ : ∃ r_, r_ = M.laws_toBlock s1 := ⟨_, rfl⟩
      have H := H r81 hr82
      refine (laws_toBlock.con hp83 hr82 (R1_0.ext hB) hc1_0 (R1_1.ext hB) hc1_1 (R1_2.ext hB) hc1_2).mono ?_
      rintro _ w84 ⟨A86, c87, A88, c89, F92, A90, c91, rfl, P19, P20, P21, N20_21, e85⟩
      have N19_7 := P19.apart_old O7.lt
      have N19_8 := P19.apart_old O8.lt
      have N9_19 := Own.apart2_new O9 P19 (Nat.le_refl _)
      have N10_19 := O10.dis_new P19 (Nat.le_refl _)
      have N11_19 := Own.apart2_new O11 P19 (Nat.le_refl _)
      have N12_19 := Own.apart2_new O12 P19 (Nat.le_refl _)
      have N13_19 := O13.dis_new P19 (Nat.le_refl _)
      have N14_19 := Own.apart2_new O14 P19 (Nat.le_refl _)
      have N15_19 := Own.apart2_new O15 P19 (Nat.le_refl _)
      have N16_19 := O16.dis_new P19 (Nat.le_refl _)
      have N17_19 := Own.apart2_new O17 P19 (Nat.le_refl _)
      have N19_18 := P19.apart_old O18.lt
      have N20_7 := P20.new_disbox O7 (Nat.le_refl _)
      have N20_8 := P20.new_disbox O8 (Nat.le_refl _)
      have N20_9 := P20.new_dis O9 (Nat.le_refl _)
      have N10_20 := O10.dis_neww P20 (Nat.le_refl _)
      have N20_11 := P20.new_dis O11 (Nat.le_refl _)
      have N20_12 := P20.new_dis O12 (Nat.le_refl _)
      have N13_20 := O13.dis_neww P20 (Nat.le_refl _)
      have N20_14 := P20.new_dis O14 (Nat.le_refl _)
      have N20_15 := P20.new_dis O15 (Nat.le_refl _)
      have N16_20 := O16.dis_neww P20 (Nat.le_refl _)
      have N20_17 := P20.new_dis O17 (Nat.le_refl _)
      have N20_18 := P20.new_disbox O18 (Nat.le_refl _)
      have N21_7 := P21.apart_old O7.lt
      have N21_8 := P21.apart_old O8.lt
      have N9_21 := Own.apart2_new O9 P21 (Nat.le_refl _)
      have N10_21 := O10.dis_new P21 (Nat.le_refl _)
      have N11_21 := Own.apart2_new O11 P21 (Nat.le_refl _)
      have N12_21 := Own.apart2_new O12 P21 (Nat.le_refl _)
      have N13_21 := O13.dis_new P21 (Nat.le_refl _)
      have N14_21 := Own.apart2_new O14 P21 (Nat.le_refl _)
      have N15_21 := Own.apart2_new O15 P21 (Nat.le_refl _)
      have N16_21 := O16.dis_new P21 (Nat.le_refl _)
      have N17_21 := Own.apart2_new O17 P21 (Nat.le_refl _)
      have N21_18 := P21.apart_old O18.lt
      have O7 := O7.ext e85
      have O8 := O8.ext e85
      have O9 := O9.ext e85
      have O10 := O10.ext e85
      have O11 := O11.ext e85
      have O12 := O12.ext e85
      have O13 := O13.ext e85
      have O14 := O14.ext e85
      have O15 := O15.ext e85
      have O16 := O16.ext e85
      have O17 := O17.ext e85
      have O18 := O18.ext e85
      have O19 := P19.mono hB.size
      have O20 := P20.mono hB.size
      have O21 := P21.mono hB.size
      have hB := ethen hB e85
      refine ⟨A86, r81.Code.length, c87, trivial, ?_⟩
      refine ⟨A88, r81.Warps.length, c89, trivial, ?_⟩
      refine ⟨A90, r81.Memory.length, c91, trivial, ?_⟩
      refine ⟨r81.Waiting, trivial, ?_⟩
      refine ⟨r81.Phase, trivial, ?_⟩
      refine ⟨rfl, ?_⟩
      refine newBlk (fun g22_ w93 L22 P22 e94 => ?_)
      have N7_22 := O7.ne L22
      have N8_22 := O8.ne L22
      have N9_22 := O9.apart_new L22
      have N10_22 := O10.dis_newbox L22
      have N11_22 := O11.apart_new L22
      have N12_22 := O12.apart_new L22
      have N13_22 := O13.dis_newbox L22
      have N14_22 := O14.apart_new L22
      have N15_22 := O15.apart_new L22
      have N16_22 := O16.dis_newbox L22
      have N17_22 := O17.apart_new L22
      have N18_22 := O18.ne L22
      have N19_22 := O19.apart_new L22
      have N20_22 := O20.dis_newbox L22
      have N21_22 := O21.apart_new L22
      have O7 := O7.ext e94
      have O8 := O8.ext e94
      have O9 := O9.ext e94
      have O10 := O10.ext e94
      have O11 := O11.ext e94
      have O12 := O12.ext e94
      have O13 := O13.ext e94
      have O14 := O14.ext e94
      have O15 := O15.ext e94
      have O16 := O16.ext e94
      have O17 := O17.ext e94
      have O18 := O18.ext e94
      have O19 := O19.ext e94
      have O20 := O20.ext e94
      have O21 := O21.ext e94
      have O22 := P22
      have L22 := Nat.le_trans hB.size L22
      have hB := ethen hB e94
      refine stBlk O22 (o := 0) (cs' := #[(.slice A86 r81.Code.length c87), (.slice A88 r81.Warps.length c89), (.slice A90 r81.Memory.length c91), (.int .i64 r81.Waiting), (.int .i64 r81.Phase)]) rfl rfl (Nat.le_of_ble_eq_true rfl) rfl (fun w95 P22 e96 => ?_)
      have O7_ := O7.chg e96 N7_22
      have O8_ := O8.chg e96 N8_22
      have O9_ := O9.chg e96 N9_22
      have O10_ := O10.chg e96 N10_22
      have O11_ := O11.chg e96 N11_22
      have O12_ := O12.chg e96 N12_22
      have O13_ := O13.chg e96 N13_22
      have O14_ := O14.chg e96 N14_22
      have O15_ := O15.chg e96 N15_22
      have O16_ := O16.chg e96 N16_22
      have O17_ := O17.chg e96 N17_22
      have O18_ := O18.chg e96 N18_22
      have O19_ := O19.chg e96 N19_22
      have O20_ := O20.chg e96 N20_22
      have O21_ := O21.chg e96 N21_22
      have O7 := O7_
      have O8 := O8_
      have O9 := O9_
      have O10 := O10_
      have O11 := O11_
      have O12 := O12_
      have O13 := O13_
      have O14 := O14_
      have O15 := O15_
      have O16 := O16_
      have O17 := O17_
      have O18 := O18_
      have O19 := O19_
      have O20 := O20_
      have O21 := O21_
      have hB := echg hB e96 L22
      have O22 := P22
      refine ⟨_, _, _, (O18.at 0 rfl rfl), ?_⟩
      refine ⟨_, _, _, (O18.at 1 rfl rfl), ?_⟩
      refine ⟨_, _, _, (O18.at 2 rfl rfl), ?_⟩
      refine ⟨_, (O18.at 3 rfl rfl), ?_⟩
      refine ⟨_, (O18.at 4 rfl rfl), ?_⟩
      refine ⟨_, _, _, (O22.at 0 rfl rfl), ?_⟩
      refine ⟨_, _, _, (O22.at 1 rfl rfl), ?_⟩
      refine ⟨_, _, _, (O22.at 2 rfl rfl), ?_⟩
      refine ⟨_, (O22.at 3 rfl rfl), ?_⟩
      refine ⟨_, (O22.at 4 rfl rfl), ?_⟩
      obtain ⟨hp99, H⟩ := H
      obtain ⟨r97, hr98⟩ : ∃ r_, r_ = M.impl_SameBlock r65 r81 := ⟨_, rfl⟩
      have H := H r97 hr98
      refine (impl_SameBlock.con hp99 hr98 O15.row O15.le O16.row O16.le O17.row O17.le O19.row O19.le O20.row O20.le O21.row O21.le).mono ?_
      rintro _ w100 ⟨rfl, e101⟩
      have O7 := O7.ext e101
      have O8 := O8.ext e101
      have O9 := O9.ext e101
      have O10 := O10.ext e101
      have O11 := O11.ext e101
      have O12 := O12.ext e101
      have O13 := O13.ext e101
      have O14 := O14.ext e101
      have O15 := O15.ext e101
      have O16 := O16.ext e101
      have O17 := O17.ext e101
      have O18 := O18.ext e101
      have O19 := O19.ext e101
      have O20 := O20.ext e101
      have O21 := O21.ext e101
      have O22 := O22.ext e101
      have hB := ethen hB e101
      refine ⟨r97, rfl, ?_⟩
      refine bcase_mk (fun hc140 => ?_) (fun hc140 => ?_)
      · have H := (bcase_iff.1 H).1 hc140
        obtain rfl := hr.trans H.symm
        exact ⟨rfl, hB⟩
      · have H := (bcase_iff.1 H).2 hc140
        refine ⟨(fun _ => False), ?_⟩
        refine ⟨_, _, _, ⟨(fun h_ => h_), (O18.at 0 rfl rfl)⟩, ?_⟩
        refine ⟨_, _, _, ⟨(fun h_ => h_), (O18.at 1 rfl rfl)⟩, ?_⟩
        refine ⟨_, _, _, ⟨(fun h_ => h_), (O18.at 2 rfl rfl)⟩, ?_⟩
        refine ⟨_, ⟨(fun h_ => h_), (O18.at 3 rfl rfl)⟩, ?_⟩
        refine ⟨_, ⟨(fun h_ => h_), (O18.at 4 rfl rfl)⟩, ?_⟩
        refine ⟨_, _, _, ⟨(fun h_ => h_), (O7.at 0 rfl rfl)⟩, ?_⟩
        refine ⟨_, _, _, ⟨(fun h_ => h_), (O7.at 1 rfl rfl)⟩, ?_⟩
        refine ⟨_, _, _, ⟨(fun h_ => h_), (O7.at 2 rfl rfl)⟩, ?_⟩
        refine ⟨_, ⟨(fun h_ => h_), (O7.at 3 rfl rfl)⟩, ?_⟩
        refine ⟨_, ⟨(fun h_ => h_), (O7.at 4 rfl rfl)⟩, ?_⟩
        have hS102 := Chg.refl (fun _ => False) w100
        have O7 := O7.ext (Ext.drew _)
        have O8 := O8.ext (Ext.drew _)
        have O9 := O9.ext (Ext.drew _)
        have O10 := O10.ext (Ext.drew _)
        have O11 := O11.ext (Ext.drew _)
        have O12 := O12.ext (Ext.drew _)
        have O13 := O13.ext (Ext.drew _)
        have O14 := O14.ext (Ext.drew _)
        have O15 := O15.ext (Ext.drew _)
        have O16 := O16.ext (Ext.drew _)
        have O17 := O17.ext (Ext.drew _)
        have O18 := O18.ext (Ext.drew _)
        have O19 := O19.ext (Ext.drew _)
        have O20 := O20.ext (Ext.drew _)
        have O21 := O21.ext (Ext.drew _)
        have O22 := O22.ext (Ext.drew _)
        have hB := ethen hB (Ext.drew _)
        have hS102 := hS102.then (Ext.drew _)
        obtain ⟨hp105, H⟩ := H
        obtain ⟨r103, hr104⟩ : ∃ r_, r_ = M.laws_toBlock s0 := ⟨_, rfl⟩
        have H := H r103 hr104
        refine (laws_toBlock.con hp105 hr104 (R0_0.ext hB) hc0_0 (R0_1.ext hB) hc0_1 (R0_2.ext hB) hc0_2).mono ?_
        rintro _ w106 ⟨A108, c109, A110, c111, F114, A112, c113, rfl, P23, P24, P25, N24_25, e107⟩
        have N23_7 := P23.apart_old O7.lt
        have N23_8 := P23.apart_old O8.lt
        have N9_23 := Own.apart2_new O9 P23 (Nat.le_refl _)
        have N10_23 := O10.dis_new P23 (Nat.le_refl _)
        have N11_23 := Own.apart2_new O11 P23 (Nat.le_refl _)
        have N12_23 := Own.apart2_new O12 P23 (Nat.le_refl _)
        have N13_23 := O13.dis_new P23 (Nat.le_refl _)
        have N14_23 := Own.apart2_new O14 P23 (Nat.le_refl _)
        have N15_23 := Own.apart2_new O15 P23 (Nat.le_refl _)
        have N16_23 := O16.dis_new P23 (Nat.le_refl _)
        have N17_23 := Own.apart2_new O17 P23 (Nat.le_refl _)
        have N23_18 := P23.apart_old O18.lt
        have N19_23 := Own.apart2_new O19 P23 (Nat.le_refl _)
        have N20_23 := O20.dis_new P23 (Nat.le_refl _)
        have N21_23 := Own.apart2_new O21 P23 (Nat.le_refl _)
        have N23_22 := P23.apart_old O22.lt
        have N24_7 := P24.new_disbox O7 (Nat.le_refl _)
        have N24_8 := P24.new_disbox O8 (Nat.le_refl _)
        have N24_9 := P24.new_dis O9 (Nat.le_refl _)
        have N10_24 := O10.dis_neww P24 (Nat.le_refl _)
        have N24_11 := P24.new_dis O11 (Nat.le_refl _)
        have N24_12 := P24.new_dis O12 (Nat.le_refl _)
        have N13_24 := O13.dis_neww P24 (Nat.le_refl _)
        have N24_14 := P24.new_dis O14 (Nat.le_refl _)
        have N24_15 := P24.new_dis O15 (Nat.le_refl _)
        have N16_24 := O16.dis_neww P24 (Nat.le_refl _)
        have N24_17 := P24.new_dis O17 (Nat.le_refl _)
        have N24_18 := P24.new_disbox O18 (Nat.le_refl _)
        have N24_19 := P24.new_dis O19 (Nat.le_refl _)
        have N20_24 := O20.dis_neww P24 (Nat.le_refl _)
        have N24_21 := P24.new_dis O21 (Nat.le_refl _)
        have N24_22 := P24.new_disbox O22 (Nat.le_refl _)
        have N25_7 := P25.apart_old O7.lt
        have N25_8 := P25.apart_old O8.lt
        have N9_25 := Own.apart2_new O9 P25 (Nat.le_refl _)
        have N10_25 := O10.dis_new P25 (Nat.le_refl _)
        have N11_25 := Own.apart2_new O11 P25 (Nat.le_refl _)
        have N12_25 := Own.apart2_new O12 P25 (Nat.le_refl _)
        have N13_25 := O13.dis_new P25 (Nat.le_refl _)
        have N14_25 := Own.apart2_new O14 P25 (Nat.le_refl _)
        have N15_25 := Own.apart2_new O15 P25 (Nat.le_refl _)
        have N16_25 := O16.dis_new P25 (Nat.le_refl _)
        have N17_25 := Own.apart2_new O17 P25 (Nat.le_refl _)
        have N25_18 := P25.apart_old O18.lt
        have N19_25 := Own.apart2_new O19 P25 (Nat.le_refl _)
        have N20_25 := O20.dis_new P25 (Nat.le_refl _)
        have N21_25 := Own.apart2_new O21 P25 (Nat.le_refl _)
        have N25_22 := P25.apart_old O22.lt
        have O7 := O7.ext e107
        have O8 := O8.ext e107
        have O9 := O9.ext e107
        have O10 := O10.ext e107
        have O11 := O11.ext e107
        have O12 := O12.ext e107
        have O13 := O13.ext e107
        have O14 := O14.ext e107
        have O15 := O15.ext e107
        have O16 := O16.ext e107
        have O17 := O17.ext e107
        have O18 := O18.ext e107
        have O19 := O19.ext e107
        have O20 := O20.ext e107
        have O21 := O21.ext e107
        have O22 := O22.ext e107
        have LB23 := (P23.mono hS102.size).low
        have LB24 := (P24.mono hS102.size).lowW
        have LB25 := (P25.mono hS102.size).low
        have O23 := P23.mono hB.size
        have O24 := P24.mono hB.size
        have O25 := P25.mono hB.size
        have hB := ethen hB e107
        have hS102 := hS102.then e107
        refine ⟨A108, r103.Code.length, c109, trivial, ?_⟩
        refine ⟨A110, r103.Warps.length, c111, trivial, ?_⟩
        refine ⟨A112, r103.Memory.length, c113, trivial, ?_⟩
        refine ⟨r103.Waiting, trivial, ?_⟩
        refine ⟨r103.Phase, trivial, ?_⟩
        refine ⟨rfl, ?_⟩
        refine ⟨sameBut_chg hS102, ?_⟩
        obtain ⟨hp117, H⟩ := H
        obtain ⟨r115, hr116⟩ : ∃ r_, r_ = M.laws_eqBlock r65 r103 := ⟨_, rfl⟩
        have H := H r115 hr116
        refine (laws_eqBlock.con hp117 hr116 O15.row O15.le O16.row O16.le O17.row O17.le O23.row O23.le O24.row O24.le O25.row O25.le).mono ?_
        rintro _ w118 ⟨rfl, e119⟩
        have O7 := O7.ext e119
        have O8 := O8.ext e119
        have O9 := O9.ext e119
        have O10 := O10.ext e119
        have O11 := O11.ext e119
        have O12 := O12.ext e119
        have O13 := O13.ext e119
        have O14 := O14.ext e119
        have O15 := O15.ext e119
        have O16 := O16.ext e119
        have O17 := O17.ext e119
        have O18 := O18.ext e119
        have O19 := O19.ext e119
        have O20 := O20.ext e119
        have O21 := O21.ext e119
        have O22 := O22.ext e119
        have O23 := O23.ext e119
        have O24 := O24.ext e119
        have O25 := O25.ext e119
        have hB := ethen hB e119
        have hS102 := hS102.then e119
        refine ⟨r115, rfl, ?_⟩
        refine ⟨sameBut_chg hS102, ?_⟩
        refine bcase_mk (fun hc139 => ?_) (fun hc139 => ?_)
        · have H := (bcase_iff.1 H).1 hc139
          obtain rfl := hr.trans H.symm
          exact ⟨rfl, hB⟩
        · have H := (bcase_iff.1 H).2 hc139
          refine ⟨(fun _ => False), ?_⟩
          refine ⟨_, _, _, ⟨(fun h_ => h_), (O22.at 0 rfl rfl)⟩, ?_⟩
          refine ⟨_, _, _, ⟨(fun h_ => h_), (O22.at 1 rfl rfl)⟩, ?_⟩
          refine ⟨_, _, _, ⟨(fun h_ => h_), (O22.at 2 rfl rfl)⟩, ?_⟩
          refine ⟨_, ⟨(fun h_ => h_), (O22.at 3 rfl rfl)⟩, ?_⟩
          refine ⟨_, ⟨(fun h_ => h_), (O22.at 4 rfl rfl)⟩, ?_⟩
          refine ⟨_, _, _, ⟨(fun h_ => h_), (O8.at 0 rfl rfl)⟩, ?_⟩
          refine ⟨_, _, _, ⟨(fun h_ => h_), (O8.at 1 rfl rfl)⟩, ?_⟩
          refine ⟨_, _, _, ⟨(fun h_ => h_), (O8.at 2 rfl rfl)⟩, ?_⟩
          refine ⟨_, ⟨(fun h_ => h_), (O8.at 3 rfl rfl)⟩, ?_⟩
          refine ⟨_, ⟨(fun h_ => h_), (O8.at 4 rfl rfl)⟩, ?_⟩
          have hS120 := Chg.refl (fun _ => False) w118
          have O7 := O7.ext (Ext.drew _)
          have O8 := O8.ext (Ext.drew _)
          have O9 := O9.ext (Ext.drew _)
          have O10 := O10.ext (Ext.drew _)
          have O11 := O11.ext (Ext.drew _)
          have O12 := O12.ext (Ext.drew _)
          have O13 := O13.ext (Ext.drew _)
          have O14 := O14.ext (Ext.drew _)
          have O15 := O15.ext (Ext.drew _)
          have O16 := O16.ext (Ext.drew _)
          have O17 := O17.ext (Ext.drew _)
          have O18 := O18.ext (Ext.drew _)
          have O19 := O19.ext (Ext.drew _)
          have O20 := O20.ext (Ext.drew _)
          have O21 := O21.ext (Ext.drew _)
          have O22 := O22.ext (Ext.drew _)
          have O23 := O23.ext (Ext.drew _)
          have O24 := O24.ext (Ext.drew _)
          have O25 := O25.ext (Ext.drew _)
          have hB := ethen hB (Ext.drew _)
          have hS120 := hS120.then (Ext.drew _)
          obtain ⟨hp123, H⟩ := H
          obtain ⟨r121, hr122⟩ : ∃ r_, r_ = M.laws_toBlock s1 := ⟨_, rfl⟩
          have H := H r121 hr122
          refine (laws_toBlock.con hp123 hr122 (R1_0.ext hB) hc1_0 (R1_1.ext hB) hc1_1 (R1_2.ext hB) hc1_2).mono ?_
          rintro _ w124 ⟨A126, c127, A128, c129, F132, A130, c131, rfl, P26, P27, P28, N27_28, e125⟩
          have N26_7 := P26.apart_old O7.lt
          have N26_8 := P26.apart_old O8.lt
          have N9_26 := Own.apart2_new O9 P26 (Nat.le_refl _)
          have N10_26 := O10.dis_new P26 (Nat.le_refl _)
          have N11_26 := Own.apart2_new O11 P26 (Nat.le_refl _)
          have N12_26 := Own.apart2_new O12 P26 (Nat.le_refl _)
          have N13_26 := O13.dis_new P26 (Nat.le_refl _)
          have N14_26 := Own.apart2_new O14 P26 (Nat.le_refl _)
          have N15_26 := Own.apart2_new O15 P26 (Nat.le_refl _)
          have N16_26 := O16.dis_new P26 (Nat.le_refl _)
          have N17_26 := Own.apart2_new O17 P26 (Nat.le_refl _)
          have N26_18 := P26.apart_old O18.lt
          have N19_26 := Own.apart2_new O19 P26 (Nat.le_refl _)
          have N20_26 := O20.dis_new P26 (Nat.le_refl _)
          have N21_26 := Own.apart2_new O21 P26 (Nat.le_refl _)
          have N26_22 := P26.apart_old O22.lt
          have N23_26 := Own.apart2_new O23 P26 (Nat.le_refl _)
          have N24_26 := O24.dis_new P26 (Nat.le_refl _)
          have N25_26 := Own.apart2_new O25 P26 (Nat.le_refl _)
          have N27_7 := P27.new_disbox O7 (Nat.le_refl _)
          have N27_8 := P27.new_disbox O8 (Nat.le_refl _)
          have N27_9 := P27.new_dis O9 (Nat.le_refl _)
          have N10_27 := O10.dis_neww P27 (Nat.le_refl _)
          have N27_11 := P27.new_dis O11 (Nat.le_refl _)
          have N27_12 := P27.new_dis O12 (Nat.le_refl _)
          have N13_27 := O13.dis_neww P27 (Nat.le_refl _)
          have N27_14 := P27.new_dis O14 (Nat.le_refl _)
          have N27_15 := P27.new_dis O15 (Nat.le_refl _)
          have N16_27 := O16.dis_neww P27 (Nat.le_refl _)
          have N27_17 := P27.new_dis O17 (Nat.le_refl _)
          have N27_18 := P27.new_disbox O18 (Nat.le_refl _)
          have N27_19 := P27.new_dis O19 (Nat.le_refl _)
          have N20_27 := O20.dis_neww P27 (Nat.le_refl _)
          have N27_21 := P27.new_dis O21 (Nat.le_refl _)
          have N27_22 := P27.new_disbox O22 (Nat.le_refl _)
          have N27_23 := P27.new_dis O23 (Nat.le_refl _)
          have N24_27 := O24.dis_neww P27 (Nat.le_refl _)
          have N27_25 := P27.new_dis O25 (Nat.le_refl _)
          have N28_7 := P28.apart_old O7.lt
          have N28_8 := P28.apart_old O8.lt
          have N9_28 := Own.apart2_new O9 P28 (Nat.le_refl _)
          have N10_28 := O10.dis_new P28 (Nat.le_refl _)
          have N11_28 := Own.apart2_new O11 P28 (Nat.le_refl _)
          have N12_28 := Own.apart2_new O12 P28 (Nat.le_refl _)
          have N13_28 := O13.dis_new P28 (Nat.le_refl _)
          have N14_28 := Own.apart2_new O14 P28 (Nat.le_refl _)
          have N15_28 := Own.apart2_new O15 P28 (Nat.le_refl _)
          have N16_28 := O16.dis_new P28 (Nat.le_refl _)
          have N17_28 := Own.apart2_new O17 P28 (Nat.le_refl _)
          have N28_18 := P28.apart_old O18.lt
          have N19_28 := Own.apart2_new O19 P28 (Nat.le_refl _)
          have N20_28 := O20.dis_new P28 (Nat.le_refl _)
          have N21_28 := Own.apart2_new O21 P28 (Nat.le_refl _)
          have N28_22 := P28.apart_old O22.lt
          have N23_28 := Own.apart2_new O23 P28 (Nat.le_refl _)
          have N24_28 := O24.dis_new P28 (Nat.le_refl _)
          have N25_28 := Own.apart2_new O25 P28 (Nat.le_refl _)
          have O7 := O7.ext e125
          have O8 := O8.ext e125
          have O9 := O9.ext e125
          have O10 := O10.ext e125
          have O11 := O11.ext e125
          have O12 := O12.ext e125
          have O13 := O13.ext e125
          have O14 := O14.ext e125
          have O15 := O15.ext e125
          have O16 := O16.ext e125
          have O17 := O17.ext e125
          have O18 := O18.ext e125
          have O19 := O19.ext e125
          have O20 := O20.ext e125
          have O21 := O21.ext e125
          have O22 := O22.ext e125
          have O23 := O23.ext e125
          have O24 := O24.ext e125
          have O25 := O25.ext e125
          have LB26 := (P26.mono hS120.size).low
          have LB27 := (P27.mono hS120.size).lowW
          have LB28 := (P28.mono hS120.size).low
          have O26 := P26.mono hB.size
          have O27 := P27.mono hB.size
          have O28 := P28.mono hB.size
          have hB := ethen hB e125
          have hS120 := hS120.then e125
          refine ⟨A126, r121.Code.length, c127, trivial, ?_⟩
          refine ⟨A128, r121.Warps.length, c129, trivial, ?_⟩
          refine ⟨A130, r121.Memory.length, c131, trivial, ?_⟩
          refine ⟨r121.Waiting, trivial, ?_⟩
          refine ⟨r121.Phase, trivial, ?_⟩
          refine ⟨rfl, ?_⟩
          refine ⟨sameBut_chg hS120, ?_⟩
          obtain ⟨hp135, H⟩ := H
          obtain ⟨r133, hr134⟩ : ∃ r_, r_ = M.laws_eqBlock r81 r121 := ⟨_, rfl⟩
          have H := H r133 hr134
          refine (laws_eqBlock.con hp135 hr134 O19.row O19.le O20.row O20.le O21.row O21.le O26.row O26.le O27.row O27.le O28.row O28.le).mono ?_
          rintro _ w136 ⟨rfl, e137⟩
          have O7 := O7.ext e137
          have O8 := O8.ext e137
          have O9 := O9.ext e137
          have O10 := O10.ext e137
          have O11 := O11.ext e137
          have O12 := O12.ext e137
          have O13 := O13.ext e137
          have O14 := O14.ext e137
          have O15 := O15.ext e137
          have O16 := O16.ext e137
          have O17 := O17.ext e137
          have O18 := O18.ext e137
          have O19 := O19.ext e137
          have O20 := O20.ext e137
          have O21 := O21.ext e137
          have O22 := O22.ext e137
          have O23 := O23.ext e137
          have O24 := O24.ext e137
          have O25 := O25.ext e137
          have O26 := O26.ext e137
          have O27 := O27.ext e137
          have O28 := O28.ext e137
          have hB := ethen hB e137
          have hS120 := hS120.then e137
          refine ⟨r133, rfl, ?_⟩
          refine ⟨sameBut_chg hS120, ?_⟩
          refine bcase_mk (fun hc138 => ?_) (fun hc138 => ?_)
          · have H := (bcase_iff.1 H).1 hc138
            obtain rfl := hr.trans H.symm
            exact ⟨rfl, hB⟩
          · have H := (bcase_iff.1 H).2 hc138
            obtain rfl := hr.trans H.symm
            exact ⟨rfl, hB⟩

end Go.V
