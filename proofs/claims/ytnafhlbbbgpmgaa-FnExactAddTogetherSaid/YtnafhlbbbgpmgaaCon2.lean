import Derived.Test.YtnafhlbbbgpmgaaMath2
import Derived.Test.YtnafhlbbbgpmgaaSeat
import Derived.Test.YtnafhlbbbgpmgaaCon1
namespace Go.V
open Go.Proofs
set_option linter.unusedVariables false
set_option linter.unusedSimpArgs false
set_option maxRecDepth 100000

def laws_markIntS.vc (A0 : Option Addr) (n0 : Nat) (c0 : Nat) (x1 : Int) (w : World) (K : Value → World → Prop) : Prop :=
  LoopT (σ := Int × Int × Unit) (fun z1 w2 next3 => bcase (decide (z1.2.1 < ((n0 : Nat) : Int))) (((0 : Int) ≤ z1.2.1 ∧ z1.2.1 < ((n0 : Nat) : Int) ∧ ∃ a4 : Addr, A0 = some a4 ∧ stCells (a4.add ((z1.2.1.toNat) * 1)) [(.int .i64 z1.1)] 0 w2 fun w5 => next3 ((IntKind.wrap .i64 (z1.1 + 1)), (IntKind.wrap .i64 (z1.2.1 + 1)), ()) w5)) (K (.int .i64 z1.1) w2)) (x1, 0, ()) w

def laws_markIntS.ann : Ann := (.seq .l (.seq (.seq .l (.one (.loop [(1, .int .i64), (5, .int .i64)] (.seq (.seq .l (.two .l .l)) (.seq (.one (.seq .l .l)) .l))))) (.seq .l .l)))

theorem laws_markIntS.vc_eq (A0 : Option Addr) (n0 : Nat) (c0 : Nat) (x1 : Int) (w : World) (K : Value → World → Prop) : vcF Try.prog Try.f31 laws_markIntS.ann [(.slice A0 n0 c0), (.int .i64 x1)] K w = laws_markIntS.vc A0 n0 c0 x1 w K := by kernel_rfl

theorem laws_markIntS.start {A0 : Option Addr} {n0 : Nat} {c0 : Nat} {x1 : Int} {w : World} {K : Value → World → Prop} (h : laws_markIntS.vc A0 n0 c0 x1 w K) : Cll Try.prog 31 #[(.slice A0 n0 c0), (.int .i64 x1)] w K :=
  vcF_sound mixed (fn := Try.f31) (by kernel_rfl) (by kernel_rfl) (an := laws_markIntS.ann) (args := [(.slice A0 n0 c0), (.int .i64 x1)]) (by rw [laws_markIntS.vc_eq]; exact h)

theorem laws_markIntS.con {xs0 : List Int} {A0 : Option Addr} {c0 : Nat} {x1 : Int} {r : Int × (List Int)} {w : World} (hp : M.laws_markIntS_pre xs0 x1) (hr : r = M.laws_markIntS xs0 x1) (O1 : Own el3 w 0 A0 c0 xs0) :
    Cll Try.prog 31 #[(.slice A0 xs0.length c0), (.int .i64 x1)] w (fun v_ w_ => v_ = (.int .i64 r.1) ∧ Own el3 w_ 0 A0 c0 r.2 ∧ r.2.length = xs0.length ∧ Chg (InB A0) w w_) := by
  have H := wp.laws_markIntS.math xs0 x1 hp
  have hB := Chg.refl (InB A0) w
  refine laws_markIntS.start ?_
  unfold laws_markIntS.vc
  unfold wp.laws_markIntS at H
  obtain ⟨J21, ⟨m39, hJ38⟩, hS22⟩ := H
  refine ⟨fun m_ z_ w_ => ∃ (i16 : Int) (i17 : Int) (xs18 : List Int), z_ = (i16, i17, ()) ∧ J21 m_ (i16, i17, xs18, ()) ∧ Chg (InB A0) w w_ ∧ Own el3 w_ 0 A0 c0 xs18 ∧ xs0.length = xs18.length, ⟨m39, x1, 0, xs0, rfl, hJ38, hB, O1, (by first | rfl | assumption | (simp; done) | (simp; omega) | (simp; assumption))⟩, ?_⟩
  rintro m20 _ w24 ⟨i16, i17, xs18, rfl, hJ40, hB, O1, hn19⟩
  have H := hS22 m20 _ hJ40
  clear hS22 hJ40
  dsimp only at H ⊢
  refine bcase_mk (fun hc36 => ?_) (fun hc36 => ?_)
  · have H := (bcase_iff.1 H).1 hc36
    obtain ⟨⟨h0_28, h1_29⟩, H⟩ := H
    obtain ⟨a26, ha27, hat25⟩ := Row.at O1.row h0_28 h1_29
    refine ⟨h0_28, (by first | exact h1_29 | omega | (simp at h1_29 ⊢; omega)), a26, ha27, ?_⟩
    refine Own.storeAt O1 ha27 h0_28 h1_29 0 [(.int .i64 i16)] i16 rfl (Nat.le_of_ble_eq_true rfl) rfl (fun w30 O1 e31 hb32 => ?_)
    have hB := hB.chgb e31 (Or.inr ⟨_, ha27, rfl⟩)
    obtain ⟨m33, hm34, hJ35⟩ := H
    exact ⟨m33, hm34, (IntKind.wrap .i64 (i16 + 1)), (IntKind.wrap .i64 (i17 + 1)), (List.set xs18 (i17.toNat) i16), rfl, hJ35, hB, O1, (by first | rfl | assumption | (simp; done) | (simp; omega) | (simp; assumption))⟩
  · have H := (bcase_iff.1 H).2 hc36
    obtain rfl := hr.trans H.symm
    exact ⟨rfl, O1, (by first | (simp only [List.length_set]; done) | (simp only [List.length_set, ← hn19]; done) | (simp; done) | (simp; omega) | omega), hB⟩

def laws_heldIntS.vc (A0 : Option Addr) (n0 : Nat) (c0 : Nat) (x1 : Int) (w : World) (K : Value → World → Prop) : Prop :=
  LoopT (σ := Int × Int × Unit) (fun z1 w2 next3 => bcase (decide (z1.2.1 < ((n0 : Nat) : Int))) (((0 : Int) ≤ z1.2.1 ∧ z1.2.1 < ((n0 : Nat) : Int) ∧ ∃ a4 : Addr, A0 = some a4 ∧ ∃ (n5 : Int), w2.cell? ((a4.add ((z1.2.1.toNat) * 1)).add 0) = some (.int .i64 n5) ∧ bcase (n5 != z1.1) (K (.int .i64 (-1)) w2) (next3 ((IntKind.wrap .i64 (z1.1 + 1)), (IntKind.wrap .i64 (z1.2.1 + 1)), ()) w2))) (K (.int .i64 z1.1) w2)) (x1, 0, ()) w

def laws_heldIntS.ann : Ann := (.seq .l (.seq (.seq .l (.one (.loop [(1, .int .i64), (5, .int .i64)] (.seq (.seq .l (.two .l .l)) (.seq (.one (.seq (.seq .l (.two (.seq .l .l) .l)) .l)) .l))))) (.seq .l .l)))

theorem laws_heldIntS.vc_eq (A0 : Option Addr) (n0 : Nat) (c0 : Nat) (x1 : Int) (w : World) (K : Value → World → Prop) : vcF Try.prog Try.f32 laws_heldIntS.ann [(.slice A0 n0 c0), (.int .i64 x1)] K w = laws_heldIntS.vc A0 n0 c0 x1 w K := by kernel_rfl

theorem laws_heldIntS.start {A0 : Option Addr} {n0 : Nat} {c0 : Nat} {x1 : Int} {w : World} {K : Value → World → Prop} (h : laws_heldIntS.vc A0 n0 c0 x1 w K) : Cll Try.prog 32 #[(.slice A0 n0 c0), (.int .i64 x1)] w K :=
  vcF_sound mixed (fn := Try.f32) (by kernel_rfl) (by kernel_rfl) (an := laws_heldIntS.ann) (args := [(.slice A0 n0 c0), (.int .i64 x1)]) (by rw [laws_heldIntS.vc_eq]; exact h)

theorem laws_heldIntS.con {xs0 : List Int} {A0 : Option Addr} {c0 : Nat} {x1 : Int} {r : Int} {w : World} (hp : M.laws_heldIntS_pre xs0 x1) (hr : r = M.laws_heldIntS xs0 x1) (R0 : Row el3 w A0 xs0) (hc0 : xs0.length ≤ c0) :
    Cll Try.prog 32 #[(.slice A0 xs0.length c0), (.int .i64 x1)] w (fun v_ w_ => v_ = (.int .i64 r) ∧ Ext w w_) := by
  have H := wp.laws_heldIntS.math xs0 x1 hp
  have hB := Ext.refl w
  refine laws_heldIntS.start ?_
  unfold laws_heldIntS.vc
  unfold wp.laws_heldIntS at H
  obtain ⟨J4, ⟨m20, hJ19⟩, hS5⟩ := H
  refine ⟨fun m_ z_ w_ => ∃ (i1 : Int) (i2 : Int), z_ = (i1, i2, ()) ∧ J4 m_ (i1, i2, ()) ∧ Ext w w_, ⟨m20, x1, 0, rfl, hJ19, hB⟩, ?_⟩
  rintro m3 _ w7 ⟨i1, i2, rfl, hJ21, hB⟩
  have H := hS5 m3 _ hJ21
  clear hS5 hJ21
  dsimp only at H ⊢
  refine bcase_mk (fun hc17 => ?_) (fun hc17 => ?_)
  · have H := (bcase_iff.1 H).1 hc17
    obtain ⟨⟨h0_11, h1_12⟩, H⟩ := H
    obtain ⟨a9, ha10, hat8⟩ := Row.at (R0.ext hB) h0_11 h1_12
    refine ⟨h0_11, h1_12, a9, ha10, ?_⟩
    refine ⟨_, (hat8 0 _ rfl), ?_⟩
    refine bcase_mk (fun hc16 => ?_) (fun hc16 => ?_)
    · have H := (bcase_iff.1 H).1 hc16
      obtain rfl := hr.trans H.symm
      exact ⟨rfl, hB⟩
    · have H := (bcase_iff.1 H).2 hc16
      obtain ⟨m13, hm14, hJ15⟩ := H
      exact ⟨m13, hm14, (IntKind.wrap .i64 (i1 + 1)), (IntKind.wrap .i64 (i2 + 1)), rfl, hJ15, hB⟩
  · have H := (bcase_iff.1 H).2 hc17
    obtain rfl := hr.trans H.symm
    exact ⟨rfl, hB⟩

def laws_markAccessS.vc (A0 : Option Addr) (n0 : Nat) (c0 : Nat) (x1 : Int) (w : World) (K : Value → World → Prop) : Prop :=
  LoopT (σ := Int × Int × Unit) (fun z1 w2 next3 => bcase (decide (z1.2.1 < ((n0 : Nat) : Int))) (((0 : Int) ≤ z1.2.1 ∧ z1.2.1 < ((n0 : Nat) : Int) ∧ ∃ a4 : Addr, A0 = some a4 ∧ stCells ((a4.add ((z1.2.1.toNat) * 4)).add 0) [(.int .i64 z1.1)] 0 w2 fun w5 => ((0 : Int) ≤ z1.2.1 ∧ z1.2.1 < ((n0 : Nat) : Int) ∧ ∃ a6 : Addr, A0 = some a6 ∧ stCells ((a6.add ((z1.2.1.toNat) * 4)).add 1) [(.int .i64 (IntKind.wrap .i64 (z1.1 + 1)))] 0 w5 fun w7 => ((0 : Int) ≤ z1.2.1 ∧ z1.2.1 < ((n0 : Nat) : Int) ∧ ∃ a8 : Addr, A0 = some a8 ∧ stCells ((a8.add ((z1.2.1.toNat) * 4)).add 2) [(.int .i64 (IntKind.wrap .i64 ((IntKind.wrap .i64 (z1.1 + 1)) + 1)))] 0 w7 fun w9 => ((0 : Int) ≤ z1.2.1 ∧ z1.2.1 < ((n0 : Nat) : Int) ∧ ∃ a10 : Addr, A0 = some a10 ∧ stCells ((a10.add ((z1.2.1.toNat) * 4)).add 3) [(.int .i64 (IntKind.wrap .i64 ((IntKind.wrap .i64 ((IntKind.wrap .i64 (z1.1 + 1)) + 1)) + 1)))] 0 w9 fun w11 => next3 ((IntKind.wrap .i64 ((IntKind.wrap .i64 ((IntKind.wrap .i64 ((IntKind.wrap .i64 (z1.1 + 1)) + 1)) + 1)) + 1)), (IntKind.wrap .i64 (z1.2.1 + 1)), ()) w11))))) (K (.int .i64 z1.1) w2)) (x1, 0, ()) w

def laws_markAccessS.ann : Ann := (.seq .l (.seq (.seq .l (.one (.loop [(1, .int .i64), (5, .int .i64)] (.seq (.seq .l (.two .l .l)) (.seq (.one (.seq .l (.seq .l (.seq .l (.seq .l (.seq .l (.seq .l (.seq .l .l)))))))) .l))))) (.seq .l .l)))

theorem laws_markAccessS.vc_eq (A0 : Option Addr) (n0 : Nat) (c0 : Nat) (x1 : Int) (w : World) (K : Value → World → Prop) : vcF Try.prog Try.f25 laws_markAccessS.ann [(.slice A0 n0 c0), (.int .i64 x1)] K w = laws_markAccessS.vc A0 n0 c0 x1 w K := by kernel_rfl

theorem laws_markAccessS.start {A0 : Option Addr} {n0 : Nat} {c0 : Nat} {x1 : Int} {w : World} {K : Value → World → Prop} (h : laws_markAccessS.vc A0 n0 c0 x1 w K) : Cll Try.prog 25 #[(.slice A0 n0 c0), (.int .i64 x1)] w K :=
  vcF_sound mixed (fn := Try.f25) (by kernel_rfl) (by kernel_rfl) (an := laws_markAccessS.ann) (args := [(.slice A0 n0 c0), (.int .i64 x1)]) (by rw [laws_markAccessS.vc_eq]; exact h)

theorem laws_markAccessS.con {xs0 : List D.Access} {A0 : Option Addr} {c0 : Nat} {x1 : Int} {r : Int × (List D.Access)} {w : World} (hp : M.laws_markAccessS_pre xs0 x1) (hr : r = M.laws_markAccessS xs0 x1) (O1 : Own el25 w 0 A0 c0 xs0) :
    Cll Try.prog 25 #[(.slice A0 xs0.length c0), (.int .i64 x1)] w (fun v_ w_ => v_ = (.int .i64 r.1) ∧ Own el25 w_ 0 A0 c0 r.2 ∧ r.2.length = xs0.length ∧ Chg (InB A0) w w_) := by
  have H := wp.laws_markAccessS.math xs0 x1 hp
  have hB := Chg.refl (InB A0) w
  refine laws_markAccessS.start ?_
  unfold laws_markAccessS.vc
  unfold wp.laws_markAccessS at H
  obtain ⟨J48, ⟨m93, hJ92⟩, hS49⟩ := H
  refine ⟨fun m_ z_ w_ => ∃ (i43 : Int) (i44 : Int) (xs45 : List D.Access), z_ = (i43, i44, ()) ∧ J48 m_ (i43, i44, xs45, ()) ∧ Chg (InB A0) w w_ ∧ Own el25 w_ 0 A0 c0 xs45 ∧ xs0.length = xs45.length, ⟨m93, x1, 0, xs0, rfl, hJ92, hB, O1, (by first | rfl | assumption | (simp; done) | (simp; omega) | (simp; assumption))⟩, ?_⟩
  rintro m47 _ w51 ⟨i43, i44, xs45, rfl, hJ94, hB, O1, hn46⟩
  have H := hS49 m47 _ hJ94
  clear hS49 hJ94
  dsimp only at H ⊢
  refine bcase_mk (fun hc90 => ?_) (fun hc90 => ?_)
  · have H := (bcase_iff.1 H).1 hc90
    obtain ⟨⟨h0_55, h1_56⟩, H⟩ := H
    obtain ⟨a53, ha54, hat52⟩ := Row.at O1.row h0_55 h1_56
    refine ⟨h0_55, (by first | exact h1_56 | omega | (simp at h1_56 ⊢; omega)), a53, ha54, ?_⟩
    refine Own.storeAt O1 ha54 h0_55 h1_56 0 [(.int .i64 i43)] (⟨i43, (rd xs45 i44).Warp, (rd xs45 i44).Address, (rd xs45 i44).Kind⟩ : D.Access) rfl (Nat.le_of_ble_eq_true rfl) rfl (fun w57 O1 e58 hb59 => ?_)
    have hB := hB.chgb e58 (Or.inr ⟨_, ha54, rfl⟩)
    obtain ⟨⟨h0_63, h1_64⟩, H⟩ := H
    obtain ⟨a61, ha62, hat60⟩ := Row.at O1.row h0_63 h1_64
    refine ⟨h0_63, (by first | exact h1_64 | omega | (simp at h1_64 ⊢; omega)), a61, ha62, ?_⟩
    have hrd68 := rd_set h0_63 h1_64
    refine Own.storeAt O1 ha62 h0_63 h1_64 1 [(.int .i64 (IntKind.wrap .i64 (i43 + 1)))] (⟨i43, (IntKind.wrap .i64 (i43 + 1)), (rd xs45 i44).Address, (rd xs45 i44).Kind⟩ : D.Access) (by rw [hrd68]; rfl) (Nat.le_of_ble_eq_true rfl) rfl (fun w65 O1 e66 hb67 => ?_)
    rw [List.set_set] at O1
    have hB := hB.chgb e66 (Or.inr ⟨_, ha62, rfl⟩)
    obtain ⟨⟨h0_72, h1_73⟩, H⟩ := H
    obtain ⟨a70, ha71, hat69⟩ := Row.at O1.row h0_72 h1_73
    refine ⟨h0_72, (by first | exact h1_73 | omega | (simp at h1_73 ⊢; omega)), a70, ha71, ?_⟩
    have hrd77 := rd_set h0_72 h1_73
    refine Own.storeAt O1 ha71 h0_72 h1_73 2 [(.int .i64 (IntKind.wrap .i64 ((IntKind.wrap .i64 (i43 + 1)) + 1)))] (⟨i43, (IntKind.wrap .i64 (i43 + 1)), (IntKind.wrap .i64 ((IntKind.wrap .i64 (i43 + 1)) + 1)), (rd xs45 i44).Kind⟩ : D.Access) (by rw [hrd77]; rfl) (Nat.le_of_ble_eq_true rfl) rfl (fun w74 O1 e75 hb76 => ?_)
    rw [List.set_set] at O1
    have hB := hB.chgb e75 (Or.inr ⟨_, ha71, rfl⟩)
    obtain ⟨⟨h0_81, h1_82⟩, H⟩ := H
    obtain ⟨a79, ha80, hat78⟩ := Row.at O1.row h0_81 h1_82
    refine ⟨h0_81, (by first | exact h1_82 | omega | (simp at h1_82 ⊢; omega)), a79, ha80, ?_⟩
    have hrd86 := rd_set h0_81 h1_82
    refine Own.storeAt O1 ha80 h0_81 h1_82 3 [(.int .i64 (IntKind.wrap .i64 ((IntKind.wrap .i64 ((IntKind.wrap .i64 (i43 + 1)) + 1)) + 1)))] (⟨i43, (IntKind.wrap .i64 (i43 + 1)), (IntKind.wrap .i64 ((IntKind.wrap .i64 (i43 + 1)) + 1)), (IntKind.wrap .i64 ((IntKind.wrap .i64 ((IntKind.wrap .i64 (i43 + 1)) + 1)) + 1))⟩ : D.Access) (by rw [hrd86]; rfl) (Nat.le_of_ble_eq_true rfl) rfl (fun w83 O1 e84 hb85 => ?_)
    rw [List.set_set] at O1
    have hB := hB.chgb e84 (Or.inr ⟨_, ha80, rfl⟩)
    obtain ⟨m87, hm88, hJ89⟩ := H
    exact ⟨m87, hm88, (IntKind.wrap .i64 ((IntKind.wrap .i64 ((IntKind.wrap .i64 ((IntKind.wrap .i64 (i43 + 1)) + 1)) + 1)) + 1)), (IntKind.wrap .i64 (i44 + 1)), (List.set xs45 (i44.toNat) (⟨i43, (IntKind.wrap .i64 (i43 + 1)), (IntKind.wrap .i64 ((IntKind.wrap .i64 (i43 + 1)) + 1)), (IntKind.wrap .i64 ((IntKind.wrap .i64 ((IntKind.wrap .i64 (i43 + 1)) + 1)) + 1))⟩ : D.Access)), rfl, hJ89, hB, O1, (by first | rfl | assumption | (simp; done) | (simp; omega) | (simp; assumption))⟩
  · have H := (bcase_iff.1 H).2 hc90
    obtain rfl := hr.trans H.symm
    exact ⟨rfl, O1, (by first | (simp only [List.length_set]; done) | (simp only [List.length_set, ← hn46]; done) | (simp; done) | (simp; omega) | omega), hB⟩

def laws_heldAccessS.vc (A0 : Option Addr) (n0 : Nat) (c0 : Nat) (x1 : Int) (w : World) (K : Value → World → Prop) : Prop :=
  LoopT (σ := Int × Int × Unit) (fun z1 w2 next3 => bcase (decide (z1.2.1 < ((n0 : Nat) : Int))) (((0 : Int) ≤ z1.2.1 ∧ z1.2.1 < ((n0 : Nat) : Int) ∧ ∃ a4 : Addr, A0 = some a4 ∧ ∃ (n5 : Int), w2.cell? (((a4.add ((z1.2.1.toNat) * 4)).add 0).add 0) = some (.int .i64 n5) ∧ bcase (n5 != z1.1) (K (.int .i64 (-1)) w2) (((0 : Int) ≤ z1.2.1 ∧ z1.2.1 < ((n0 : Nat) : Int) ∧ ∃ a6 : Addr, A0 = some a6 ∧ ∃ (n7 : Int), w2.cell? (((a6.add ((z1.2.1.toNat) * 4)).add 1).add 0) = some (.int .i64 n7) ∧ bcase (n7 != (IntKind.wrap .i64 (z1.1 + 1))) (K (.int .i64 (-1)) w2) (((0 : Int) ≤ z1.2.1 ∧ z1.2.1 < ((n0 : Nat) : Int) ∧ ∃ a8 : Addr, A0 = some a8 ∧ ∃ (n9 : Int), w2.cell? (((a8.add ((z1.2.1.toNat) * 4)).add 2).add 0) = some (.int .i64 n9) ∧ bcase (n9 != (IntKind.wrap .i64 ((IntKind.wrap .i64 (z1.1 + 1)) + 1))) (K (.int .i64 (-1)) w2) (((0 : Int) ≤ z1.2.1 ∧ z1.2.1 < ((n0 : Nat) : Int) ∧ ∃ a10 : Addr, A0 = some a10 ∧ ∃ (n11 : Int), w2.cell? (((a10.add ((z1.2.1.toNat) * 4)).add 3).add 0) = some (.int .i64 n11) ∧ bcase (n11 != (IntKind.wrap .i64 ((IntKind.wrap .i64 ((IntKind.wrap .i64 (z1.1 + 1)) + 1)) + 1))) (K (.int .i64 (-1)) w2) (next3 ((IntKind.wrap .i64 ((IntKind.wrap .i64 ((IntKind.wrap .i64 ((IntKind.wrap .i64 (z1.1 + 1)) + 1)) + 1)) + 1)), (IntKind.wrap .i64 (z1.2.1 + 1)), ()) w2))))))))) (K (.int .i64 z1.1) w2)) (x1, 0, ()) w

def laws_heldAccessS.ann : Ann := (.seq .l (.seq (.seq .l (.one (.loop [(1, .int .i64), (5, .int .i64)] (.seq (.seq .l (.two .l .l)) (.seq (.one (.seq (.seq .l (.two (.seq .l .l) .l)) (.seq .l (.seq (.seq .l (.two (.seq .l .l) .l)) (.seq .l (.seq (.seq .l (.two (.seq .l .l) .l)) (.seq .l (.seq (.seq .l (.two (.seq .l .l) .l)) .l)))))))) .l))))) (.seq .l .l)))

theorem laws_heldAccessS.vc_eq (A0 : Option Addr) (n0 : Nat) (c0 : Nat) (x1 : Int) (w : World) (K : Value → World → Prop) : vcF Try.prog Try.f26 laws_heldAccessS.ann [(.slice A0 n0 c0), (.int .i64 x1)] K w = laws_heldAccessS.vc A0 n0 c0 x1 w K := by kernel_rfl

theorem laws_heldAccessS.start {A0 : Option Addr} {n0 : Nat} {c0 : Nat} {x1 : Int} {w : World} {K : Value → World → Prop} (h : laws_heldAccessS.vc A0 n0 c0 x1 w K) : Cll Try.prog 26 #[(.slice A0 n0 c0), (.int .i64 x1)] w K :=
  vcF_sound mixed (fn := Try.f26) (by kernel_rfl) (by kernel_rfl) (an := laws_heldAccessS.ann) (args := [(.slice A0 n0 c0), (.int .i64 x1)]) (by rw [laws_heldAccessS.vc_eq]; exact h)

theorem laws_heldAccessS.con {xs0 : List D.Access} {A0 : Option Addr} {c0 : Nat} {x1 : Int} {r : Int} {w : World} (hp : M.laws_heldAccessS_pre xs0 x1) (hr : r = M.laws_heldAccessS xs0 x1) (R0 : Row el25 w A0 xs0) (hc0 : xs0.length ≤ c0) :
    Cll Try.prog 26 #[(.slice A0 xs0.length c0), (.int .i64 x1)] w (fun v_ w_ => v_ = (.int .i64 r) ∧ Ext w w_) := by
  have H := wp.laws_heldAccessS.math xs0 x1 hp
  have hB := Ext.refl w
  refine laws_heldAccessS.start ?_
  unfold laws_heldAccessS.vc
  unfold wp.laws_heldAccessS at H
  obtain ⟨J4, ⟨m38, hJ37⟩, hS5⟩ := H
  refine ⟨fun m_ z_ w_ => ∃ (i1 : Int) (i2 : Int), z_ = (i1, i2, ()) ∧ J4 m_ (i1, i2, ()) ∧ Ext w w_, ⟨m38, x1, 0, rfl, hJ37, hB⟩, ?_⟩
  rintro m3 _ w7 ⟨i1, i2, rfl, hJ39, hB⟩
  have H := hS5 m3 _ hJ39
  clear hS5 hJ39
  dsimp only at H ⊢
  refine bcase_mk (fun hc35 => ?_) (fun hc35 => ?_)
  · have H := (bcase_iff.1 H).1 hc35
    obtain ⟨⟨h0_11, h1_12⟩, H⟩ := H
    obtain ⟨a9, ha10, hat8⟩ := Row.at (R0.ext hB) h0_11 h1_12
    refine ⟨h0_11, h1_12, a9, ha10, ?_⟩
    refine ⟨_, (hat8 0 _ rfl), ?_⟩
    refine bcase_mk (fun hc34 => ?_) (fun hc34 => ?_)
    · have H := (bcase_iff.1 H).1 hc34
      obtain rfl := hr.trans H.symm
      exact ⟨rfl, hB⟩
    · have H := (bcase_iff.1 H).2 hc34
      obtain ⟨⟨h0_16, h1_17⟩, H⟩ := H
      obtain ⟨a14, ha15, hat13⟩ := Row.at (R0.ext hB) h0_16 h1_17
      refine ⟨h0_16, h1_17, a14, ha15, ?_⟩
      refine ⟨_, (hat13 1 _ rfl), ?_⟩
      refine bcase_mk (fun hc33 => ?_) (fun hc33 => ?_)
      · have H := (bcase_iff.1 H).1 hc33
        obtain rfl := hr.trans H.symm
        exact ⟨rfl, hB⟩
      · have H := (bcase_iff.1 H).2 hc33
        obtain ⟨⟨h0_21, h1_22⟩, H⟩ := H
        obtain ⟨a19, ha20, hat18⟩ := Row.at (R0.ext hB) h0_21 h1_22
        refine ⟨h0_21, h1_22, a19, ha20, ?_⟩
        refine ⟨_, (hat18 2 _ rfl), ?_⟩
        refine bcase_mk (fun hc32 => ?_) (fun hc32 => ?_)
        · have H := (bcase_iff.1 H).1 hc32
          obtain rfl := hr.trans H.symm
          exact ⟨rfl, hB⟩
        · have H := (bcase_iff.1 H).2 hc32
          obtain ⟨⟨h0_26, h1_27⟩, H⟩ := H
          obtain ⟨a24, ha25, hat23⟩ := Row.at (R0.ext hB) h0_26 h1_27
          refine ⟨h0_26, h1_27, a24, ha25, ?_⟩
          refine ⟨_, (hat23 3 _ rfl), ?_⟩
          refine bcase_mk (fun hc31 => ?_) (fun hc31 => ?_)
          · have H := (bcase_iff.1 H).1 hc31
            obtain rfl := hr.trans H.symm
            exact ⟨rfl, hB⟩
          · have H := (bcase_iff.1 H).2 hc31
            obtain ⟨m28, hm29, hJ30⟩ := H
            exact ⟨m28, hm29, (IntKind.wrap .i64 ((IntKind.wrap .i64 ((IntKind.wrap .i64 ((IntKind.wrap .i64 (i1 + 1)) + 1)) + 1)) + 1)), (IntKind.wrap .i64 (i2 + 1)), rfl, hJ30, hB⟩
  · have H := (bcase_iff.1 H).2 hc35
    obtain rfl := hr.trans H.symm
    exact ⟨rfl, hB⟩

def laws_eqAccess.vc (x0_0 : Int) (x0_1 : Int) (x0_2 : Int) (x0_3 : Int) (x1_0 : Int) (x1_1 : Int) (x1_2 : Int) (x1_3 : Int) (w : World) (K : Value → World → Prop) : Prop :=
  newK w (.cells #[(.int .i64 x0_0), (.int .i64 x0_1), (.int .i64 x0_2), (.int .i64 x0_3)] 25) fun g1 w2 => newK w2 (.cells #[(.int .i64 x1_0), (.int .i64 x1_1), (.int .i64 x1_2), (.int .i64 x1_3)] 25) fun g3 w4 => ∃ (n5 : Int), w4.cell? (((⟨g1, 0, none⟩ : Addr).add 0).add 0) = some (.int .i64 n5) ∧ ∃ (n6 : Int), w4.cell? (((⟨g3, 0, none⟩ : Addr).add 0).add 0) = some (.int .i64 n6) ∧ bcase (n5 != n6) (K (.bool false) w4) (∃ (n7 : Int), w4.cell? (((⟨g1, 0, none⟩ : Addr).add 1).add 0) = some (.int .i64 n7) ∧ ∃ (n8 : Int), w4.cell? (((⟨g3, 0, none⟩ : Addr).add 1).add 0) = some (.int .i64 n8) ∧ bcase (n7 != n8) (K (.bool false) w4) (∃ (n9 : Int), w4.cell? (((⟨g1, 0, none⟩ : Addr).add 2).add 0) = some (.int .i64 n9) ∧ ∃ (n10 : Int), w4.cell? (((⟨g3, 0, none⟩ : Addr).add 2).add 0) = some (.int .i64 n10) ∧ bcase (n9 != n10) (K (.bool false) w4) (∃ (n11 : Int), w4.cell? (((⟨g1, 0, none⟩ : Addr).add 3).add 0) = some (.int .i64 n11) ∧ ∃ (n12 : Int), w4.cell? (((⟨g3, 0, none⟩ : Addr).add 3).add 0) = some (.int .i64 n12) ∧ bcase (n11 != n12) (K (.bool false) w4) (K (.bool true) w4))))

def laws_eqAccess.ann : Ann := (.seq .l (.seq (.seq .l (.two (.seq .l .l) .l)) (.seq (.seq .l (.two (.seq .l .l) .l)) (.seq (.seq .l (.two (.seq .l .l) .l)) (.seq (.seq .l (.two (.seq .l .l) .l)) (.seq .l .l))))))

theorem laws_eqAccess.vc_eq (x0_0 : Int) (x0_1 : Int) (x0_2 : Int) (x0_3 : Int) (x1_0 : Int) (x1_1 : Int) (x1_2 : Int) (x1_3 : Int) (w : World) (K : Value → World → Prop) : vcF Try.prog Try.f61 laws_eqAccess.ann [(.agg #[(.int .i64 x0_0), (.int .i64 x0_1), (.int .i64 x0_2), (.int .i64 x0_3)]), (.agg #[(.int .i64 x1_0), (.int .i64 x1_1), (.int .i64 x1_2), (.int .i64 x1_3)])] K w = laws_eqAccess.vc x0_0 x0_1 x0_2 x0_3 x1_0 x1_1 x1_2 x1_3 w K := by kernel_rfl

theorem laws_eqAccess.start {x0_0 : Int} {x0_1 : Int} {x0_2 : Int} {x0_3 : Int} {x1_0 : Int} {x1_1 : Int} {x1_2 : Int} {x1_3 : Int} {w : World} {K : Value → World → Prop} (h : laws_eqAccess.vc x0_0 x0_1 x0_2 x0_3 x1_0 x1_1 x1_2 x1_3 w K) : Cll Try.prog 61 #[(.agg #[(.int .i64 x0_0), (.int .i64 x0_1), (.int .i64 x0_2), (.int .i64 x0_3)]), (.agg #[(.int .i64 x1_0), (.int .i64 x1_1), (.int .i64 x1_2), (.int .i64 x1_3)])] w K :=
  vcF_sound mixed (fn := Try.f61) (by kernel_rfl) (by kernel_rfl) (an := laws_eqAccess.ann) (args := [(.agg #[(.int .i64 x0_0), (.int .i64 x0_1), (.int .i64 x0_2), (.int .i64 x0_3)]), (.agg #[(.int .i64 x1_0), (.int .i64 x1_1), (.int .i64 x1_2), (.int .i64 x1_3)])]) (by rw [laws_eqAccess.vc_eq]; exact h)

theorem laws_eqAccess.con {s0 : D.Access} {s1 : D.Access} {r : Bool} {w : World} (hr : r = M.laws_eqAccess s0 s1)  :
    Cll Try.prog 61 #[(.agg #[(.int .i64 s0.Phase), (.int .i64 s0.Warp), (.int .i64 s0.Address), (.int .i64 s0.Kind)]), (.agg #[(.int .i64 s1.Phase), (.int .i64 s1.Warp), (.int .i64 s1.Address), (.int .i64 s1.Kind)])] w (fun v_ w_ => v_ = (.bool r) ∧ Ext w w_) := by
  have H := wp.laws_eqAccess.math s0 s1
  have hB := Ext.refl w
  refine laws_eqAccess.start ?_
  unfold laws_eqAccess.vc
  unfold wp.laws_eqAccess at H
  refine newBlk (fun g1_ w1 L1 P1 e2 => ?_)
  have O1 := P1
  have L1 := Nat.le_trans hB.size L1
  have hB := ethen hB e2
  refine newBlk (fun g2_ w3 L2 P2 e4 => ?_)
  have N1_2 := O1.ne L2
  have O1 := O1.ext e4
  have O2 := P2
  have L2 := Nat.le_trans hB.size L2
  have hB := ethen hB e4
  refine ⟨_, (O1.at 0 rfl rfl), ?_⟩
  refine ⟨_, (O2.at 0 rfl rfl), ?_⟩
  refine bcase_mk (fun hc8 => ?_) (fun hc8 => ?_)
  · have H := (bcase_iff.1 H).1 hc8
    obtain rfl := hr.trans H.symm
    exact ⟨rfl, hB⟩
  · have H := (bcase_iff.1 H).2 hc8
    refine ⟨_, (O1.at 1 rfl rfl), ?_⟩
    refine ⟨_, (O2.at 1 rfl rfl), ?_⟩
    refine bcase_mk (fun hc7 => ?_) (fun hc7 => ?_)
    · have H := (bcase_iff.1 H).1 hc7
      obtain rfl := hr.trans H.symm
      exact ⟨rfl, hB⟩
    · have H := (bcase_iff.1 H).2 hc7
      refine ⟨_, (O1.at 2 rfl rfl), ?_⟩
      refine ⟨_, (O2.at 2 rfl rfl), ?_⟩
      refine bcase_mk (fun hc6 => ?_) (fun hc6 => ?_)
      · have H := (bcase_iff.1 H).1 hc6
        obtain rfl := hr.trans H.symm
        exact ⟨rfl, hB⟩
      · have H := (bcase_iff.1 H).2 hc6
        refine ⟨_, (O1.at 3 rfl rfl), ?_⟩
        refine ⟨_, (O2.at 3 rfl rfl), ?_⟩
        refine bcase_mk (fun hc5 => ?_) (fun hc5 => ?_)
        · have H := (bcase_iff.1 H).1 hc5
          obtain rfl := hr.trans H.symm
          exact ⟨rfl, hB⟩
        · have H := (bcase_iff.1 H).2 hc5
          obtain rfl := hr.trans H.symm
          exact ⟨rfl, hB⟩

def laws_eqAccessS.vc (A0 : Option Addr) (n0 : Nat) (c0 : Nat) (A1 : Option Addr) (n1 : Nat) (c1 : Nat) (w : World) (K : Value → World → Prop) : Prop :=
  bcase (((n0 : Nat) : Int) != ((n1 : Nat) : Int)) (K (.bool false) w) (LoopT (σ := Int × Unit) (fun z1 w2 next3 => bcase (decide (z1.1 < ((n0 : Nat) : Int))) ((∃ M4 : Nat → Prop, ((0 : Int) ≤ z1.1 ∧ z1.1 < ((n0 : Nat) : Int) ∧ ∃ a5 : Addr, A0 = some a5 ∧ ∃ (n6 : Int), (¬ M4 ((a5.add ((z1.1.toNat) * 4))).block ∧ w2.cell? ((a5.add ((z1.1.toNat) * 4)).add 0) = some (.int .i64 n6)) ∧ ∃ (n7 : Int), (¬ M4 ((a5.add ((z1.1.toNat) * 4))).block ∧ w2.cell? ((a5.add ((z1.1.toNat) * 4)).add 1) = some (.int .i64 n7)) ∧ ∃ (n8 : Int), (¬ M4 ((a5.add ((z1.1.toNat) * 4))).block ∧ w2.cell? ((a5.add ((z1.1.toNat) * 4)).add 2) = some (.int .i64 n8)) ∧ ∃ (n9 : Int), (¬ M4 ((a5.add ((z1.1.toNat) * 4))).block ∧ w2.cell? ((a5.add ((z1.1.toNat) * 4)).add 3) = some (.int .i64 n9)) ∧ ((0 : Int) ≤ z1.1 ∧ z1.1 < ((n1 : Nat) : Int) ∧ ∃ a10 : Addr, A1 = some a10 ∧ ∃ (n11 : Int), (¬ M4 ((a10.add ((z1.1.toNat) * 4))).block ∧ w2.cell? ((a10.add ((z1.1.toNat) * 4)).add 0) = some (.int .i64 n11)) ∧ ∃ (n12 : Int), (¬ M4 ((a10.add ((z1.1.toNat) * 4))).block ∧ w2.cell? ((a10.add ((z1.1.toNat) * 4)).add 1) = some (.int .i64 n12)) ∧ ∃ (n13 : Int), (¬ M4 ((a10.add ((z1.1.toNat) * 4))).block ∧ w2.cell? ((a10.add ((z1.1.toNat) * 4)).add 2) = some (.int .i64 n13)) ∧ ∃ (n14 : Int), (¬ M4 ((a10.add ((z1.1.toNat) * 4))).block ∧ w2.cell? ((a10.add ((z1.1.toNat) * 4)).add 3) = some (.int .i64 n14)) ∧ Cll Try.prog 61 #[(.agg #[(.int .i64 n6), (.int .i64 n7), (.int .i64 n8), (.int .i64 n9)]), (.agg #[(.int .i64 n11), (.int .i64 n12), (.int .i64 n13), (.int .i64 n14)])] w2.drew fun v15 w16 => (∃ (b17 : Bool), v15 = (.bool b17) ∧ SameBut M4 w2 w16 ∧ bcase (!b17) (K (.bool false) w16) (next3 ((IntKind.wrap .i64 (z1.1 + 1)), ()) w16)))))) (K (.bool true) w2)) (0, ()) w)

def laws_eqAccessS.ann : Ann := (.seq .l (.seq (.seq .l (.two (.seq .l .l) .l)) (.seq (.seq .l (.one (.loop [(5, .int .i64)] (.seq (.seq .l (.two .l .l)) (.seq (.one (.seq .l (.two (.seq .l .l) .l))) .l))))) (.seq .l .l))))

theorem laws_eqAccessS.vc_eq (A0 : Option Addr) (n0 : Nat) (c0 : Nat) (A1 : Option Addr) (n1 : Nat) (c1 : Nat) (w : World) (K : Value → World → Prop) : vcF Try.prog Try.f22 laws_eqAccessS.ann [(.slice A0 n0 c0), (.slice A1 n1 c1)] K w = laws_eqAccessS.vc A0 n0 c0 A1 n1 c1 w K := by kernel_rfl

theorem laws_eqAccessS.start {A0 : Option Addr} {n0 : Nat} {c0 : Nat} {A1 : Option Addr} {n1 : Nat} {c1 : Nat} {w : World} {K : Value → World → Prop} (h : laws_eqAccessS.vc A0 n0 c0 A1 n1 c1 w K) : Cll Try.prog 22 #[(.slice A0 n0 c0), (.slice A1 n1 c1)] w K :=
  vcF_sound mixed (fn := Try.f22) (by kernel_rfl) (by kernel_rfl) (an := laws_eqAccessS.ann) (args := [(.slice A0 n0 c0), (.slice A1 n1 c1)]) (by rw [laws_eqAccessS.vc_eq]; exact h)

theorem laws_eqAccessS.con {xs0 : List D.Access} {A0 : Option Addr} {c0 : Nat} {xs1 : List D.Access} {A1 : Option Addr} {c1 : Nat} {r : Bool} {w : World} (hp : M.laws_eqAccessS_pre xs0 xs1) (hr : r = M.laws_eqAccessS xs0 xs1) (R0 : Row el25 w A0 xs0) (hc0 : xs0.length ≤ c0) (R1 : Row el25 w A1 xs1) (hc1 : xs1.length ≤ c1) :
    Cll Try.prog 22 #[(.slice A0 xs0.length c0), (.slice A1 xs1.length c1)] w (fun v_ w_ => v_ = (.bool r) ∧ Ext w w_) := by
  have H := wp.laws_eqAccessS.math xs0 xs1 hp
  have hB := Ext.refl w
  refine laws_eqAccessS.start ?_
  unfold laws_eqAccessS.vc
  unfold wp.laws_eqAccessS at H
  refine bcase_mk (fun hc32 => ?_) (fun hc32 => ?_)
  · have H := (bcase_iff.1 H).1 hc32
    obtain rfl := hr.trans H.symm
    exact ⟨rfl, hB⟩
  · have H := (bcase_iff.1 H).2 hc32
    obtain ⟨J3, ⟨m30, hJ29⟩, hS4⟩ := H
    refine ⟨fun m_ z_ w_ => ∃ (i1 : Int), z_ = (i1, ()) ∧ J3 m_ (i1, ()) ∧ Ext w w_, ⟨m30, 0, rfl, hJ29, hB⟩, ?_⟩
    rintro m2 _ w6 ⟨i1, rfl, hJ31, hB⟩
    have H := hS4 m2 _ hJ31
    clear hS4 hJ31
    dsimp only at H ⊢
    refine bcase_mk (fun hc27 => ?_) (fun hc27 => ?_)
    · have H := (bcase_iff.1 H).1 hc27
      refine ⟨(fun _ => False), ?_⟩
      obtain ⟨⟨h0_11, h1_12⟩, H⟩ := H
      obtain ⟨a9, ha10, hat8⟩ := Row.at (R0.ext hB) h0_11 h1_12
      refine ⟨h0_11, h1_12, a9, ha10, ?_⟩
      refine ⟨_, ⟨(fun h_ => h_), (hat8 0 _ rfl)⟩, ?_⟩
      refine ⟨_, ⟨(fun h_ => h_), (hat8 1 _ rfl)⟩, ?_⟩
      refine ⟨_, ⟨(fun h_ => h_), (hat8 2 _ rfl)⟩, ?_⟩
      refine ⟨_, ⟨(fun h_ => h_), (hat8 3 _ rfl)⟩, ?_⟩
      obtain ⟨⟨h0_16, h1_17⟩, H⟩ := H
      obtain ⟨a14, ha15, hat13⟩ := Row.at (R1.ext hB) h0_16 h1_17
      refine ⟨h0_16, h1_17, a14, ha15, ?_⟩
      refine ⟨_, ⟨(fun h_ => h_), (hat13 0 _ rfl)⟩, ?_⟩
      refine ⟨_, ⟨(fun h_ => h_), (hat13 1 _ rfl)⟩, ?_⟩
      refine ⟨_, ⟨(fun h_ => h_), (hat13 2 _ rfl)⟩, ?_⟩
      refine ⟨_, ⟨(fun h_ => h_), (hat13 3 _ rfl)⟩, ?_⟩
      have hS7 := Chg.refl (fun _ => False) w6
      have hB := ethen hB (Ext.drew _)
      have hS7 := hS7.then (Ext.drew _)
      obtain ⟨r18, hr19⟩ : ∃ r_, r_ = M.laws_eqAccess (rd xs0 i1) (rd xs1 i1) := ⟨_, rfl⟩
      have H := H r18 hr19
      refine (laws_eqAccess.con hr19 ).mono ?_
      rintro _ w21 ⟨rfl, e22⟩
      have hB := ethen hB e22
      have hS7 := hS7.then e22
      refine ⟨r18, rfl, ?_⟩
      refine ⟨sameBut_chg hS7, ?_⟩
      refine bcase_mk (fun hc26 => ?_) (fun hc26 => ?_)
      · have H := (bcase_iff.1 H).1 hc26
        obtain rfl := hr.trans H.symm
        exact ⟨rfl, hB⟩
      · have H := (bcase_iff.1 H).2 hc26
        obtain ⟨m23, hm24, hJ25⟩ := H
        exact ⟨m23, hm24, (IntKind.wrap .i64 (i1 + 1)), rfl, hJ25, hB⟩
    · have H := (bcase_iff.1 H).2 hc27
      obtain rfl := hr.trans H.symm
      exact ⟨rfl, hB⟩

end Go.V
