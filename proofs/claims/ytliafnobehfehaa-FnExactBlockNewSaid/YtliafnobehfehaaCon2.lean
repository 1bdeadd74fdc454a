import Derived.Test.YtliafnobehfehaaMath2
import Derived.Test.YtliafnobehfehaaSeat
import Derived.Test.YtliafnobehfehaaCon1
namespace Go.V
open Go.Proofs
set_option linter.unusedVariables false
set_option linter.unusedSimpArgs false
set_option maxRecDepth 100000

def laws_markIntS.vc (A0 : Option Addr) (n0 : Nat) (c0 : Nat) (x1 : Int) (w : World) (K : Value → World → Prop) : Prop :=
  LoopT (σ := Int × Int × Unit) (fun z21 w22 next23 => bcase (decide (z21.2.1 < ((n0 : Nat) : Int))) (((0 : Int) ≤ z21.2.1 ∧ z21.2.1 < ((n0 : Nat) : Int) ∧ ∃ a24 : Addr, A0 = some a24 ∧ stCells (a24.add ((z21.2.1.toNat) * 1)) [(.int .i64 z21.1)] 0 w22 fun w25 => next23 ((IntKind.wrap .i64 (z21.1 + 1)), (IntKind.wrap .i64 (z21.2.1 + 1)), ()) w25)) (K (.int .i64 z21.1) w22)) (x1, 0, ()) w

def laws_markIntS.ann : Ann := (.seq .l (.seq (.seq .l (.one (.loop [(1, .int .i64), (5, .int .i64)] (.seq (.seq .l (.two .l .l)) (.seq (.one (.seq .l .l)) .l))))) (.seq .l .l)))

theorem laws_markIntS.vc_eq (A0 : Option Addr) (n0 : Nat) (c0 : Nat) (x1 : Int) (w : World) (K : Value → World → Prop) : vcF Try.prog Try.f102 laws_markIntS.ann [(.slice A0 n0 c0), (.int .i64 x1)] K w = laws_markIntS.vc A0 n0 c0 x1 w K := by kernel_rfl

theorem laws_markIntS.start {A0 : Option Addr} {n0 : Nat} {c0 : Nat} {x1 : Int} {w : World} {K : Value → World → Prop} (h : laws_markIntS.vc A0 n0 c0 x1 w K) : Cll Try.prog 102 #[(.slice A0 n0 c0), (.int .i64 x1)] w K :=
  vcF_sound mixed (fn := Try.f102) (by kernel_rfl) (by kernel_rfl) (an := laws_markIntS.ann) (args := [(.slice A0 n0 c0), (.int .i64 x1)]) (by rw [laws_markIntS.vc_eq]; exact h)

theorem laws_markIntS.con {xs0 : List Int} {A0 : Option Addr} {c0 : Nat} {x1 : Int} {r : Int × (List Int)} {w : World} (hp : M.laws_markIntS_pre xs0 x1) (hr : r = M.laws_markIntS xs0 x1) (O1 : Own el3 w 0 A0 c0 xs0) :
    Cll Try.prog 102 #[(.slice A0 xs0.length c0), (.int .i64 x1)] w (fun v_ w_ => v_ = (.int .i64 r.1) ∧ Own el3 w_ 0 A0 c0 r.2 ∧ r.2.length = xs0.length ∧ Chg (InB A0) w w_) := by
  have H := wp.laws_markIntS.math xs0 x1 hp
  have hB := Chg.refl (InB A0) w
  refine laws_markIntS.start ?_
  unfold laws_markIntS.vc
  unfold wp.laws_markIntS at H
  obtain ⟨J41, ⟨m59, hJ58⟩, hS42⟩ := H
  refine ⟨fun m_ z_ w_ => ∃ (i36 : Int) (i37 : Int) (xs38 : List Int), z_ = (i36, i37, ()) ∧ J41 m_ (i36, i37, xs38, ()) ∧ Chg (InB A0) w w_ ∧ Own el3 w_ 0 A0 c0 xs38 ∧ xs0.length = xs38.length, ⟨m59, x1, 0, xs0, rfl, hJ58, hB, O1, (by first | rfl | assumption | (simp; done) | (simp; omega) | (simp; assumption))⟩, ?_⟩
  rintro m40 _ w44 ⟨i36, i37, xs38, rfl, hJ60, hB, O1, hn39⟩
  have H := hS42 m40 _ hJ60
  clear hS42 hJ60
  dsimp only at H ⊢
  refine bcase_mk (fun hc56 => ?_) (fun hc56 => ?_)
  · have H := (bcase_iff.1 H).1 hc56
    obtain ⟨⟨h0_48, h1_49⟩, H⟩ := H
    obtain ⟨a46, ha47, hat45⟩ := Row.at O1.row h0_48 h1_49
    refine ⟨h0_48, (by first | exact h1_49 | omega | (simp at h1_49 ⊢; omega)), a46, ha47, ?_⟩
    refine Own.storeAt O1 ha47 h0_48 h1_49 0 [(.int .i64 i36)] i36 rfl (Nat.le_of_ble_eq_true rfl) rfl (fun w50 P1 e51 hb52 => ?_)
    have hB := hB.chgb e51 (Or.inr ⟨_, ha47, rfl⟩)
    have O1 := P1
    obtain ⟨m53, hm54, hJ55⟩ := H
    exact ⟨m53, hm54, (IntKind.wrap .i64 (i36 + 1)), (IntKind.wrap .i64 (i37 + 1)), (List.set xs38 (i37.toNat) i36), rfl, hJ55, hB, O1, (by first | rfl | assumption | (simp; done) | (simp; omega) | (simp; assumption))⟩
  · have H := (bcase_iff.1 H).2 hc56
    obtain rfl := hr.trans H.symm
    exact ⟨rfl, O1, (by first | (simp only [List.length_set]; done) | (simp only [List.length_set, ← hn39]; done) | (simp; done) | (simp; omega) | omega), hB⟩

def laws_heldIntS.vc (A0 : Option Addr) (n0 : Nat) (c0 : Nat) (x1 : Int) (w : World) (K : Value → World → Prop) : Prop :=
  LoopT (σ := Int × Int × Unit) (fun z21 w22 next23 => bcase (decide (z21.2.1 < ((n0 : Nat) : Int))) (((0 : Int) ≤ z21.2.1 ∧ z21.2.1 < ((n0 : Nat) : Int) ∧ ∃ a24 : Addr, A0 = some a24 ∧ ∃ (n25 : Int), w22.cell? ((a24.add ((z21.2.1.toNat) * 1)).add 0) = some (.int .i64 n25) ∧ bcase (n25 != z21.1) (K (.int .i64 (-1)) w22) (next23 ((IntKind.wrap .i64 (z21.1 + 1)), (IntKind.wrap .i64 (z21.2.1 + 1)), ()) w22))) (K (.int .i64 z21.1) w22)) (x1, 0, ()) w

def laws_heldIntS.ann : Ann := (.seq .l (.seq (.seq .l (.one (.loop [(1, .int .i64), (5, .int .i64)] (.seq (.seq .l (.two .l .l)) (.seq (.one (.seq (.seq .l (.two (.seq .l .l) .l)) .l)) .l))))) (.seq .l .l)))

theorem laws_heldIntS.vc_eq (A0 : Option Addr) (n0 : Nat) (c0 : Nat) (x1 : Int) (w : World) (K : Value → World → Prop) : vcF Try.prog Try.f105 laws_heldIntS.ann [(.slice A0 n0 c0), (.int .i64 x1)] K w = laws_heldIntS.vc A0 n0 c0 x1 w K := by kernel_rfl

theorem laws_heldIntS.start {A0 : Option Addr} {n0 : Nat} {c0 : Nat} {x1 : Int} {w : World} {K : Value → World → Prop} (h : laws_heldIntS.vc A0 n0 c0 x1 w K) : Cll Try.prog 105 #[(.slice A0 n0 c0), (.int .i64 x1)] w K :=
  vcF_sound mixed (fn := Try.f105) (by kernel_rfl) (by kernel_rfl) (an := laws_heldIntS.ann) (args := [(.slice A0 n0 c0), (.int .i64 x1)]) (by rw [laws_heldIntS.vc_eq]; exact h)

theorem laws_heldIntS.con {xs0 : List Int} {A0 : Option Addr} {c0 : Nat} {x1 : Int} {r : Int} {w : World} (hp : M.laws_heldIntS_pre xs0 x1) (hr : r = M.laws_heldIntS xs0 x1) (R0 : Row el3 w A0 xs0) (hc0 : xs0.length ≤ c0) :
    Cll Try.prog 105 #[(.slice A0 xs0.length c0), (.int .i64 x1)] w (fun v_ w_ => v_ = (.int .i64 r) ∧ Ext w w_) := by
  have H := wp.laws_heldIntS.math xs0 x1 hp
  have hB := Ext.refl w
  refine laws_heldIntS.start ?_
  unfold laws_heldIntS.vc
  unfold wp.laws_heldIntS at H
  obtain ⟨J24, ⟨m40, hJ39⟩, hS25⟩ := H
  refine ⟨fun m_ z_ w_ => ∃ (i21 : Int) (i22 : Int), z_ = (i21, i22, ()) ∧ J24 m_ (i21, i22, ()) ∧ Ext w w_, ⟨m40, x1, 0, rfl, hJ39, hB⟩, ?_⟩
  rintro m23 _ w27 ⟨i21, i22, rfl, hJ41, hB⟩
  have H := hS25 m23 _ hJ41
  clear hS25 hJ41
  dsimp only at H ⊢
  refine bcase_mk (fun hc37 => ?_) (fun hc37 => ?_)
  · have H := (bcase_iff.1 H).1 hc37
    obtain ⟨⟨h0_31, h1_32⟩, H⟩ := H
    obtain ⟨a29, ha30, hat28⟩ := Row.at (R0.ext hB) h0_31 h1_32
    refine ⟨h0_31, h1_32, a29, ha30, ?_⟩
    refine ⟨_, (hat28 0 _ rfl), ?_⟩
    refine bcase_mk (fun hc36 => ?_) (fun hc36 => ?_)
    · have H := (bcase_iff.1 H).1 hc36
      obtain rfl := hr.trans H.symm
      exact ⟨rfl, hB⟩
    · have H := (bcase_iff.1 H).2 hc36
      obtain ⟨m33, hm34, hJ35⟩ := H
      exact ⟨m33, hm34, (IntKind.wrap .i64 (i21 + 1)), (IntKind.wrap .i64 (i22 + 1)), rfl, hJ35, hB⟩
  · have H := (bcase_iff.1 H).2 hc37
    obtain rfl := hr.trans H.symm
    exact ⟨rfl, hB⟩

def laws_markAccessS.vc (A0 : Option Addr) (n0 : Nat) (c0 : Nat) (x1 : Int) (w : World) (K : Value → World → Prop) : Prop :=
  LoopT (σ := Int × Int × Unit) (fun z21 w22 next23 => bcase (decide (z21.2.1 < ((n0 : Nat) : Int))) (((0 : Int) ≤ z21.2.1 ∧ z21.2.1 < ((n0 : Nat) : Int) ∧ ∃ a24 : Addr, A0 = some a24 ∧ stCells ((a24.add ((z21.2.1.toNat) * 4)).add 0) [(.int .i64 z21.1)] 0 w22 fun w25 => ((0 : Int) ≤ z21.2.1 ∧ z21.2.1 < ((n0 : Nat) : Int) ∧ ∃ a26 : Addr, A0 = some a26 ∧ stCells ((a26.add ((z21.2.1.toNat) * 4)).add 1) [(.int .i64 (IntKind.wrap .i64 (z21.1 + 1)))] 0 w25 fun w27 => ((0 : Int) ≤ z21.2.1 ∧ z21.2.1 < ((n0 : Nat) : Int) ∧ ∃ a28 : Addr, A0 = some a28 ∧ stCells ((a28.add ((z21.2.1.toNat) * 4)).add 2) [(.int .i64 (IntKind.wrap .i64 ((IntKind.wrap .i64 (z21.1 + 1)) + 1)))] 0 w27 fun w29 => ((0 : Int) ≤ z21.2.1 ∧ z21.2.1 < ((n0 : Nat) : Int) ∧ ∃ a30 : Addr, A0 = some a30 ∧ stCells ((a30.add ((z21.2.1.toNat) * 4)).add 3) [(.int .i64 (IntKind.wrap .i64 ((IntKind.wrap .i64 ((IntKind.wrap .i64 (z21.1 + 1)) + 1)) + 1)))] 0 w29 fun w31 => next23 ((IntKind.wrap .i64 ((IntKind.wrap .i64 ((IntKind.wrap .i64 ((IntKind.wrap .i64 (z21.1 + 1)) + 1)) + 1)) + 1)), (IntKind.wrap .i64 (z21.2.1 + 1)), ()) w31))))) (K (.int .i64 z21.1) w22)) (x1, 0, ()) w

def laws_markAccessS.ann : Ann := (.seq .l (.seq (.seq .l (.one (.loop [(1, .int .i64), (5, .int .i64)] (.seq (.seq .l (.two .l .l)) (.seq (.one (.seq .l (.seq .l (.seq .l (.seq .l (.seq .l (.seq .l (.seq .l .l)))))))) .l))))) (.seq .l .l)))

theorem laws_markAccessS.vc_eq (A0 : Option Addr) (n0 : Nat) (c0 : Nat) (x1 : Int) (w : World) (K : Value → World → Prop) : vcF Try.prog Try.f27 laws_markAccessS.ann [(.slice A0 n0 c0), (.int .i64 x1)] K w = laws_markAccessS.vc A0 n0 c0 x1 w K := by kernel_rfl

theorem laws_markAccessS.start {A0 : Option Addr} {n0 : Nat} {c0 : Nat} {x1 : Int} {w : World} {K : Value → World → Prop} (h : laws_markAccessS.vc A0 n0 c0 x1 w K) : Cll Try.prog 27 #[(.slice A0 n0 c0), (.int .i64 x1)] w K :=
  vcF_sound mixed (fn := Try.f27) (by kernel_rfl) (by kernel_rfl) (an := laws_markAccessS.ann) (args := [(.slice A0 n0 c0), (.int .i64 x1)]) (by rw [laws_markAccessS.vc_eq]; exact h)

theorem laws_markAccessS.con {xs0 : List D.Access} {A0 : Option Addr} {c0 : Nat} {x1 : Int} {r : Int × (List D.Access)} {w : World} (hp : M.laws_markAccessS_pre xs0 x1) (hr : r = M.laws_markAccessS xs0 x1) (O1 : Own el81 w 0 A0 c0 xs0) :
    Cll Try.prog 27 #[(.slice A0 xs0.length c0), (.int .i64 x1)] w (fun v_ w_ => v_ = (.int .i64 r.1) ∧ Own el81 w_ 0 A0 c0 r.2 ∧ r.2.length = xs0.length ∧ Chg (InB A0) w w_) := by
  have H := wp.laws_markAccessS.math xs0 x1 hp
  have hB := Chg.refl (InB A0) w
  refine laws_markAccessS.start ?_
  unfold laws_markAccessS.vc
  unfold wp.laws_markAccessS at H
  obtain ⟨J68, ⟨m113, hJ112⟩, hS69⟩ := H
  refine ⟨fun m_ z_ w_ => ∃ (i63 : Int) (i64 : Int) (xs65 : List D.Access), z_ = (i63, i64, ()) ∧ J68 m_ (i63, i64, xs65, ()) ∧ Chg (InB A0) w w_ ∧ Own el81 w_ 0 A0 c0 xs65 ∧ xs0.length = xs65.length, ⟨m113, x1, 0, xs0, rfl, hJ112, hB, O1, (by first | rfl | assumption | (simp; done) | (simp; omega) | (simp; assumption))⟩, ?_⟩
  rintro m67 _ w71 ⟨i63, i64, xs65, rfl, hJ114, hB, O1, hn66⟩
  have H := hS69 m67 _ hJ114
  clear hS69 hJ114
  dsimp only at H ⊢
  refine bcase_mk (fun hc110 => ?_) (fun hc110 => ?_)
  · have H := (bcase_iff.1 H).1 hc110
    obtain ⟨⟨h0_75, h1_76⟩, H⟩ := H
    obtain ⟨a73, ha74, hat72⟩ := Row.at O1.row h0_75 h1_76
    refine ⟨h0_75, (by first | exact h1_76 | omega | (simp at h1_76 ⊢; omega)), a73, ha74, ?_⟩
    refine Own.storeAt O1 ha74 h0_75 h1_76 0 [(.int .i64 i63)] (⟨i63, (rd xs65 i64).Warp, (rd xs65 i64).Address, (rd xs65 i64).Kind⟩ : D.Access) rfl (Nat.le_of_ble_eq_true rfl) rfl (fun w77 P1 e78 hb79 => ?_)
    have hB := hB.chgb e78 (Or.inr ⟨_, ha74, rfl⟩)
    have O1 := P1
    obtain ⟨⟨h0_83, h1_84⟩, H⟩ := H
    obtain ⟨a81, ha82, hat80⟩ := Row.at O1.row h0_83 h1_84
    refine ⟨h0_83, (by first | exact h1_84 | omega | (simp at h1_84 ⊢; omega)), a81, ha82, ?_⟩
    have hrd88 := rd_set h0_83 h1_84
    refine Own.storeAt O1 ha82 h0_83 h1_84 1 [(.int .i64 (IntKind.wrap .i64 (i63 + 1)))] (⟨i63, (IntKind.wrap .i64 (i63 + 1)), (rd xs65 i64).Address, (rd xs65 i64).Kind⟩ : D.Access) (by rw [hrd88]; rfl) (Nat.le_of_ble_eq_true rfl) rfl (fun w85 P1 e86 hb87 => ?_)
    rw [List.set_set] at P1
    have hB := hB.chgb e86 (Or.inr ⟨_, ha82, rfl⟩)
    have O1 := P1
    obtain ⟨⟨h0_92, h1_93⟩, H⟩ := H
    obtain ⟨a90, ha91, hat89⟩ := Row.at O1.row h0_92 h1_93
    refine ⟨h0_92, (by first | exact h1_93 | omega | (simp at h1_93 ⊢; omega)), a90, ha91, ?_⟩
    have hrd97 := rd_set h0_92 h1_93
    refine Own.storeAt O1 ha91 h0_92 h1_93 2 [(.int .i64 (IntKind.wrap .i64 ((IntKind.wrap .i64 (i63 + 1)) + 1)))] (⟨i63, (IntKind.wrap .i64 (i63 + 1)), (IntKind.wrap .i64 ((IntKind.wrap .i64 (i63 + 1)) + 1)), (rd xs65 i64).Kind⟩ : D.Access) (by rw [hrd97]; rfl) (Nat.le_of_ble_eq_true rfl) rfl (fun w94 P1 e95 hb96 => ?_)
    rw [List.set_set] at P1
    have hB := hB.chgb e95 (Or.inr ⟨_, ha91, rfl⟩)
    have O1 := P1
    obtain ⟨⟨h0_101, h1_102⟩, H⟩ := H
    obtain ⟨a99, ha100, hat98⟩ := Row.at O1.row h0_101 h1_102
    refine ⟨h0_101, (by first | exact h1_102 | omega | (simp at h1_102 ⊢; omega)), a99, ha100, ?_⟩
    have hrd106 := rd_set h0_101 h1_102
    refine Own.storeAt O1 ha100 h0_101 h1_102 3 [(.int .i64 (IntKind.wrap .i64 ((IntKind.wrap .i64 ((IntKind.wrap .i64 (i63 + 1)) + 1)) + 1)))] (⟨i63, (IntKind.wrap .i64 (i63 + 1)), (IntKind.wrap .i64 ((IntKind.wrap .i64 (i63 + 1)) + 1)), (IntKind.wrap .i64 ((IntKind.wrap .i64 ((IntKind.wrap .i64 (i63 + 1)) + 1)) + 1))⟩ : D.Access) (by rw [hrd106]; rfl) (Nat.le_of_ble_eq_true rfl) rfl (fun w103 P1 e104 hb105 => ?_)
    rw [List.set_set] at P1
    have hB := hB.chgb e104 (Or.inr ⟨_, ha100, rfl⟩)
    have O1 := P1
    obtain ⟨m107, hm108, hJ109⟩ := H
    exact ⟨m107, hm108, (IntKind.wrap .i64 ((IntKind.wrap .i64 ((IntKind.wrap .i64 ((IntKind.wrap .i64 (i63 + 1)) + 1)) + 1)) + 1)), (IntKind.wrap .i64 (i64 + 1)), (List.set xs65 (i64.toNat) (⟨i63, (IntKind.wrap .i64 (i63 + 1)), (IntKind.wrap .i64 ((IntKind.wrap .i64 (i63 + 1)) + 1)), (IntKind.wrap .i64 ((IntKind.wrap .i64 ((IntKind.wrap .i64 (i63 + 1)) + 1)) + 1))⟩ : D.Access)), rfl, hJ109, hB, O1, (by first | rfl | assumption | (simp; done) | (simp; omega) | (simp; assumption))⟩
  · have H := (bcase_iff.1 H).2 hc110
    obtain rfl := hr.trans H.symm
    exact ⟨rfl, O1, (by first | (simp only [List.length_set]; done) | (simp only [List.length_set, ← hn66]; done) | (simp; done) | (simp; omega) | omega), hB⟩

def laws_heldAccessS.vc (A0 : Option Addr) (n0 : Nat) (c0 : Nat) (x1 : Int) (w : World) (K : Value → World → Prop) : Prop :=
  LoopT (σ := Int × Int × Unit) (fun z21 w22 next23 => bcase (decide (z21.2.1 < ((n0 : Nat) : Int))) (((0 : Int) ≤ z21.2.1 ∧ z21.2.1 < ((n0 : Nat) : Int) ∧ ∃ a24 : Addr, A0 = some a24 ∧ ∃ (n25 : Int), w22.cell? (((a24.add ((z21.2.1.toNat) * 4)).add 0).add 0) = some (.int .i64 n25) ∧ bcase (n25 != z21.1) (K (.int .i64 (-1)) w22) (((0 : Int) ≤ z21.2.1 ∧ z21.2.1 < ((n0 : Nat) : Int) ∧ ∃ a26 : Addr, A0 = some a26 ∧ ∃ (n27 : Int), w22.cell? (((a26.add ((z21.2.1.toNat) * 4)).add 1).add 0) = some (.int .i64 n27) ∧ bcase (n27 != (IntKind.wrap .i64 (z21.1 + 1))) (K (.int .i64 (-1)) w22) (((0 : Int) ≤ z21.2.1 ∧ z21.2.1 < ((n0 : Nat) : Int) ∧ ∃ a28 : Addr, A0 = some a28 ∧ ∃ (n29 : Int), w22.cell? (((a28.add ((z21.2.1.toNat) * 4)).add 2).add 0) = some (.int .i64 n29) ∧ bcase (n29 != (IntKind.wrap .i64 ((IntKind.wrap .i64 (z21.1 + 1)) + 1))) (K (.int .i64 (-1)) w22) (((0 : Int) ≤ z21.2.1 ∧ z21.2.1 < ((n0 : Nat) : Int) ∧ ∃ a30 : Addr, A0 = some a30 ∧ ∃ (n31 : Int), w22.cell? (((a30.add ((z21.2.1.toNat) * 4)).add 3).add 0) = some (.int .i64 n31) ∧ bcase (n31 != (IntKind.wrap .i64 ((IntKind.wrap .i64 ((IntKind.wrap .i64 (z21.1 + 1)) + 1)) + 1))) (K (.int .i64 (-1)) w22) (next23 ((IntKind.wrap .i64 ((IntKind.wrap .i64 ((IntKind.wrap .i64 ((IntKind.wrap .i64 (z21.1 + 1)) + 1)) + 1)) + 1)), (IntKind.wrap .i64 (z21.2.1 + 1)), ()) w22))))))))) (K (.int .i64 z21.1) w22)) (x1, 0, ()) w

def laws_heldAccessS.ann : Ann := (.seq .l (.seq (.seq .l (.one (.loop [(1, .int .i64), (5, .int .i64)] (.seq (.seq .l (.two .l .l)) (.seq (.one (.seq (.seq .l (.two (.seq .l .l) .l)) (.seq .l (.seq (.seq .l (.two (.seq .l .l) .l)) (.seq .l (.seq (.seq .l (.two (.seq .l .l) .l)) (.seq .l (.seq (.seq .l (.two (.seq .l .l) .l)) .l)))))))) .l))))) (.seq .l .l)))

theorem laws_heldAccessS.vc_eq (A0 : Option Addr) (n0 : Nat) (c0 : Nat) (x1 : Int) (w : World) (K : Value → World → Prop) : vcF Try.prog Try.f28 laws_heldAccessS.ann [(.slice A0 n0 c0), (.int .i64 x1)] K w = laws_heldAccessS.vc A0 n0 c0 x1 w K := by kernel_rfl

theorem laws_heldAccessS.start {A0 : Option Addr} {n0 : Nat} {c0 : Nat} {x1 : Int} {w : World} {K : Value → World → Prop} (h : laws_heldAccessS.vc A0 n0 c0 x1 w K) : Cll Try.prog 28 #[(.slice A0 n0 c0), (.int .i64 x1)] w K :=
  vcF_sound mixed (fn := Try.f28) (by kernel_rfl) (by kernel_rfl) (an := laws_heldAccessS.ann) (args := [(.slice A0 n0 c0), (.int .i64 x1)]) (by rw [laws_heldAccessS.vc_eq]; exact h)

theorem laws_heldAccessS.con {xs0 : List D.Access} {A0 : Option Addr} {c0 : Nat} {x1 : Int} {r : Int} {w : World} (hp : M.laws_heldAccessS_pre xs0 x1) (hr : r = M.laws_heldAccessS xs0 x1) (R0 : Row el81 w A0 xs0) (hc0 : xs0.length ≤ c0) :
    Cll Try.prog 28 #[(.slice A0 xs0.length c0), (.int .i64 x1)] w (fun v_ w_ => v_ = (.int .i64 r) ∧ Ext w w_) := by
  have H := wp.laws_heldAccessS.math xs0 x1 hp
  have hB := Ext.refl w
  refine laws_heldAccessS.start ?_
  unfold laws_heldAccessS.vc
  unfold wp.laws_heldAccessS at H
  obtain ⟨J24, ⟨m58, hJ57⟩, hS25⟩ := H
  refine ⟨fun m_ z_ w_ => ∃ (i21 : Int) (i22 : Int), z_ = (i21, i22, ()) ∧ J24 m_ (i21, i22, ()) ∧ Ext w w_, ⟨m58, x1, 0, rfl, hJ57, hB⟩, ?_⟩
  rintro m23 _ w27 ⟨i21, i22, rfl, hJ59, hB⟩
  have H := hS25 m23 _ hJ59
  clear hS25 hJ59
  dsimp only at H ⊢
  refine bcase_mk (fun hc55 => ?_) (fun hc55 => ?_)
  · have H := (bcase_iff.1 H).1 hc55
    obtain ⟨⟨h0_31, h1_32⟩, H⟩ := H
    obtain ⟨a29, ha30, hat28⟩ := Row.at (R0.ext hB) h0_31 h1_32
    refine ⟨h0_31, h1_32, a29, ha30, ?_⟩
    refine ⟨_, (hat28 0 _ rfl), ?_⟩
    refine bcase_mk (fun hc54 => ?_) (fun hc54 => ?_)
    · have H := (bcase_iff.1 H).1 hc54
      obtain rfl := hr.trans H.symm
      exact ⟨rfl, hB⟩
    · have H := (bcase_iff.1 H).2 hc54
      obtain ⟨⟨h0_36, h1_37⟩, H⟩ := H
      obtain ⟨a34, ha35, hat33⟩ := Row.at (R0.ext hB) h0_36 h1_37
      refine ⟨h0_36, h1_37, a34, ha35, ?_⟩
      refine ⟨_, (hat33 1 _ rfl), ?_⟩
      refine bcase_mk (fun hc53 => ?_) (fun hc53 => ?_)
      · have H := (bcase_iff.1 H).1 hc53
        obtain rfl := hr.trans H.symm
        exact ⟨rfl, hB⟩
      · have H := (bcase_iff.1 H).2 hc53
        obtain ⟨⟨h0_41, h1_42⟩, H⟩ := H
        obtain ⟨a39, ha40, hat38⟩ := Row.at (R0.ext hB) h0_41 h1_42
        refine ⟨h0_41, h1_42, a39, ha40, ?_⟩
        refine ⟨_, (hat38 2 _ rfl), ?_⟩
        refine bcase_mk (fun hc52 => ?_) (fun hc52 => ?_)
        · have H := (bcase_iff.1 H).1 hc52
          obtain rfl := hr.trans H.symm
          exact ⟨rfl, hB⟩
        · have H := (bcase_iff.1 H).2 hc52
          obtain ⟨⟨h0_46, h1_47⟩, H⟩ := H
          obtain ⟨a44, ha45, hat43⟩ := Row.at (R0.ext hB) h0_46 h1_47
          refine ⟨h0_46, h1_47, a44, ha45, ?_⟩
          refine ⟨_, (hat43 3 _ rfl), ?_⟩
          refine bcase_mk (fun hc51 => ?_) (fun hc51 => ?_)
          · have H := (bcase_iff.1 H).1 hc51
            obtain rfl := hr.trans H.symm
            exact ⟨rfl, hB⟩
          · have H := (bcase_iff.1 H).2 hc51
            obtain ⟨m48, hm49, hJ50⟩ := H
            exact ⟨m48, hm49, (IntKind.wrap .i64 ((IntKind.wrap .i64 ((IntKind.wrap .i64 ((IntKind.wrap .i64 (i21 + 1)) + 1)) + 1)) + 1)), (IntKind.wrap .i64 (i22 + 1)), rfl, hJ50, hB⟩
  · have H := (bcase_iff.1 H).2 hc55
    obtain rfl := hr.trans H.symm
    exact ⟨rfl, hB⟩

def laws_eqAccess.vc (x0_0 : Int) (x0_1 : Int) (x0_2 : Int) (x0_3 : Int) (x1_0 : Int) (x1_1 : Int) (x1_2 : Int) (x1_3 : Int) (w : World) (K : Value → World → Prop) : Prop :=
  newK w (.cells #[(.int .i64 x0_0), (.int .i64 x0_1), (.int .i64 x0_2), (.int .i64 x0_3)] 81) fun g21 w22 => newK w22 (.cells #[(.int .i64 x1_0), (.int .i64 x1_1), (.int .i64 x1_2), (.int .i64 x1_3)] 81) fun g23 w24 => ∃ (n25 : Int), w24.cell? (((⟨g21, 0, none⟩ : Addr).add 0).add 0) = some (.int .i64 n25) ∧ ∃ (n26 : Int), w24.cell? (((⟨g23, 0, none⟩ : Addr).add 0).add 0) = some (.int .i64 n26) ∧ bcase (n25 != n26) (K (.bool false) w24) (∃ (n27 : Int), w24.cell? (((⟨g21, 0, none⟩ : Addr).add 1).add 0) = some (.int .i64 n27) ∧ ∃ (n28 : Int), w24.cell? (((⟨g23, 0, none⟩ : Addr).add 1).add 0) = some (.int .i64 n28) ∧ bcase (n27 != n28) (K (.bool false) w24) (∃ (n29 : Int), w24.cell? (((⟨g21, 0, none⟩ : Addr).add 2).add 0) = some (.int .i64 n29) ∧ ∃ (n30 : Int), w24.cell? (((⟨g23, 0, none⟩ : Addr).add 2).add 0) = some (.int .i64 n30) ∧ bcase (n29 != n30) (K (.bool false) w24) (∃ (n31 : Int), w24.cell? (((⟨g21, 0, none⟩ : Addr).add 3).add 0) = some (.int .i64 n31) ∧ ∃ (n32 : Int), w24.cell? (((⟨g23, 0, none⟩ : Addr).add 3).add 0) = some (.int .i64 n32) ∧ bcase (n31 != n32) (K (.bool false) w24) (K (.bool true) w24))))

def laws_eqAccess.ann : Ann := (.seq .l (.seq (.seq .l (.two (.seq .l .l) .l)) (.seq (.seq .l (.two (.seq .l .l) .l)) (.seq (.seq .l (.two (.seq .l .l) .l)) (.seq (.seq .l (.two (.seq .l .l) .l)) (.seq .l .l))))))

theorem laws_eqAccess.vc_eq (x0_0 : Int) (x0_1 : Int) (x0_2 : Int) (x0_3 : Int) (x1_0 : Int) (x1_1 : Int) (x1_2 : Int) (x1_3 : Int) (w : World) (K : Value → World → Prop) : vcF Try.prog Try.f68 laws_eqAccess.ann [(.agg #[(.int .i64 x0_0), (.int .i64 x0_1), (.int .i64 x0_2), (.int .i64 x0_3)]), (.agg #[(.int .i64 x1_0), (.int .i64 x1_1), (.int .i64 x1_2), (.int .i64 x1_3)])] K w = laws_eqAccess.vc x0_0 x0_1 x0_2 x0_3 x1_0 x1_1 x1_2 x1_3 w K := by kernel_rfl

theorem laws_eqAccess.start {x0_0 : Int} {x0_1 : Int} {x0_2 : Int} {x0_3 : Int} {x1_0 : Int} {x1_1 : Int} {x1_2 : Int} {x1_3 : Int} {w : World} {K : Value → World → Prop} (h : laws_eqAccess.vc x0_0 x0_1 x0_2 x0_3 x1_0 x1_1 x1_2 x1_3 w K) : Cll Try.prog 68 #[(.agg #[(.int .i64 x0_0), (.int .i64 x0_1), (.int .i64 x0_2), (.int .i64 x0_3)]), (.agg #[(.int .i64 x1_0), (.int .i64 x1_1), (.int .i64 x1_2), (.int .i64 x1_3)])] w K :=
  vcF_sound mixed (fn := Try.f68) (by kernel_rfl) (by kernel_rfl) (an := laws_eqAccess.ann) (args := [(.agg #[(.int .i64 x0_0), (.int .i64 x0_1), (.int .i64 x0_2), (.int .i64 x0_3)]), (.agg #[(.int .i64 x1_0), (.int .i64 x1_1), (.int .i64 x1_2), (.int .i64 x1_3)])]) (by rw [laws_eqAccess.vc_eq]; exact h)

theorem laws_eqAccess.con {s0 : D.Access} {s1 : D.Access} {r : Bool} {w : World} (hr : r = M.laws_eqAccess s0 s1)  :
    Cll Try.prog 68 #[(.agg #[(.int .i64 s0.Phase), (.int .i64 s0.Warp), (.int .i64 s0.Address), (.int .i64 s0.Kind)]), (.agg #[(.int .i64 s1.Phase), (.int .i64 s1.Warp), (.int .i64 s1.Address), (.int .i64 s1.Kind)])] w (fun v_ w_ => v_ = (.bool r) ∧ Ext w w_) := by
  have H := wp.laws_eqAccess.math s0 s1
  have hB := Ext.refl w
  refine laws_eqAccess.start ?_
  unfold laws_eqAccess.vc
  unfold wp.laws_eqAccess at H
  refine newBlk (fun g1_ w21 L1 P1 e22 => ?_)
  have O1 := P1
  have L1 := Nat.le_trans hB.size L1
  have hB := ethen hB e22
  refine newBlk (fun g2_ w23 L2 P2 e24 => ?_)
  have N1_2 := O1.ne L2
  have O1 := O1.ext e24
  have O2 := P2
  have L2 := Nat.le_trans hB.size L2
  have hB := ethen hB e24
  refine ⟨_, (O1.at 0 rfl rfl), ?_⟩
  refine ⟨_, (O2.at 0 rfl rfl), ?_⟩
  refine bcase_mk (fun hc28 => ?_) (fun hc28 => ?_)
  · have H := (bcase_iff.1 H).1 hc28
    obtain rfl := hr.trans H.symm
    exact ⟨rfl, hB⟩
  · have H := (bcase_iff.1 H).2 hc28
    refine ⟨_, (O1.at 1 rfl rfl), ?_⟩
    refine ⟨_, (O2.at 1 rfl rfl), ?_⟩
    refine bcase_mk (fun hc27 => ?_) (fun hc27 => ?_)
    · have H := (bcase_iff.1 H).1 hc27
      obtain rfl := hr.trans H.symm
      exact ⟨rfl, hB⟩
    · have H := (bcase_iff.1 H).2 hc27
      refine ⟨_, (O1.at 2 rfl rfl), ?_⟩
      refine ⟨_, (O2.at 2 rfl rfl), ?_⟩
      refine bcase_mk (fun hc26 => ?_) (fun hc26 => ?_)
      · have H := (bcase_iff.1 H).1 hc26
        obtain rfl := hr.trans H.symm
        exact ⟨rfl, hB⟩
      · have H := (bcase_iff.1 H).2 hc26
        refine ⟨_, (O1.at 3 rfl rfl), ?_⟩
        refine ⟨_, (O2.at 3 rfl rfl), ?_⟩
        refine bcase_mk (fun hc25 => ?_) (fun hc25 => ?_)
        · have H := (bcase_iff.1 H).1 hc25
          obtain rfl := hr.trans H.symm
          exact ⟨rfl, hB⟩
        · have H := (bcase_iff.1 H).2 hc25
          obtain rfl := hr.trans H.symm
          exact ⟨rfl, hB⟩

def laws_eqAccessS.vc (A0 : Option Addr) (n0 : Nat) (c0 : Nat) (A1 : Option Addr) (n1 : Nat) (c1 : Nat) (w : World) (K : Value → World → Prop) : Prop :=
  bcase (((n0 : Nat) : Int) != ((n1 : Nat) : Int)) (K (.bool false) w) (LoopT (σ := Int × Unit) (fun z21 w22 next23 => bcase (decide (z21.1 < ((n0 : Nat) : Int))) ((∃ M24 : Nat → Prop, ((0 : Int) ≤ z21.1 ∧ z21.1 < ((n0 : Nat) : Int) ∧ ∃ a25 : Addr, A0 = some a25 ∧ ∃ (n26 : Int), (¬ M24 ((a25.add ((z21.1.toNat) * 4))).block ∧ w22.cell? ((a25.add ((z21.1.toNat) * 4)).add 0) = some (.int .i64 n26)) ∧ ∃ (n27 : Int), (¬ M24 ((a25.add ((z21.1.toNat) * 4))).block ∧ w22.cell? ((a25.add ((z21.1.toNat) * 4)).add 1) = some (.int .i64 n27)) ∧ ∃ (n28 : Int), (¬ M24 ((a25.add ((z21.1.toNat) * 4))).block ∧ w22.cell? ((a25.add ((z21.1.toNat) * 4)).add 2) = some (.int .i64 n28)) ∧ ∃ (n29 : Int), (¬ M24 ((a25.add ((z21.1.toNat) * 4))).block ∧ w22.cell? ((a25.add ((z21.1.toNat) * 4)).add 3) = some (.int .i64 n29)) ∧ ((0 : Int) ≤ z21.1 ∧ z21.1 < ((n1 : Nat) : Int) ∧ ∃ a30 : Addr, A1 = some a30 ∧ ∃ (n31 : Int), (¬ M24 ((a30.add ((z21.1.toNat) * 4))).block ∧ w22.cell? ((a30.add ((z21.1.toNat) * 4)).add 0) = some (.int .i64 n31)) ∧ ∃ (n32 : Int), (¬ M24 ((a30.add ((z21.1.toNat) * 4))).block ∧ w22.cell? ((a30.add ((z21.1.toNat) * 4)).add 1) = some (.int .i64 n32)) ∧ ∃ (n33 : Int), (¬ M24 ((a30.add ((z21.1.toNat) * 4))).block ∧ w22.cell? ((a30.add ((z21.1.toNat) * 4)).add 2) = some (.int .i64 n33)) ∧ ∃ (n34 : Int), (¬ M24 ((a30.add ((z21.1.toNat) * 4))).block ∧ w22.cell? ((a30.add ((z21.1.toNat) * 4)).add 3) = some (.int .i64 n34)) ∧ Cll Try.prog 68 #[(.agg #[(.int .i64 n26), (.int .i64 n27), (.int .i64 n28), (.int .i64 n29)]), (.agg #[(.int .i64 n31), (.int .i64 n32), (.int .i64 n33), (.int .i64 n34)])] w22.drew fun v35 w36 => (∃ (b37 : Bool), v35 = (.bool b37) ∧ SameBut M24 w22 w36 ∧ bcase (!b37) (K (.bool false) w36) (next23 ((IntKind.wrap .i64 (z21.1 + 1)), ()) w36)))))) (K (.bool true) w22)) (0, ()) w)

def laws_eqAccessS.ann : Ann := (.seq .l (.seq (.seq .l (.two (.seq .l .l) .l)) (.seq (.seq .l (.one (.loop [(5, .int .i64)] (.seq (.seq .l (.two .l .l)) (.seq (.one (.seq .l (.two (.seq .l .l) .l))) .l))))) (.seq .l .l))))

theorem laws_eqAccessS.vc_eq (A0 : Option Addr) (n0 : Nat) (c0 : Nat) (A1 : Option Addr) (n1 : Nat) (c1 : Nat) (w : World) (K : Value → World → Prop) : vcF Try.prog Try.f24 laws_eqAccessS.ann [(.slice A0 n0 c0), (.slice A1 n1 c1)] K w = laws_eqAccessS.vc A0 n0 c0 A1 n1 c1 w K := by kernel_rfl

theorem laws_eqAccessS.start {A0 : Option Addr} {n0 : Nat} {c0 : Nat} {A1 : Option Addr} {n1 : Nat} {c1 : Nat} {w : World} {K : Value → World → Prop} (h : laws_eqAccessS.vc A0 n0 c0 A1 n1 c1 w K) : Cll Try.prog 24 #[(.slice A0 n0 c0), (.slice A1 n1 c1)] w K :=
  vcF_sound mixed (fn := Try.f24) (by kernel_rfl) (by kernel_rfl) (an := laws_eqAccessS.ann) (args := [(.slice A0 n0 c0), (.slice A1 n1 c1)]) (by rw [laws_eqAccessS.vc_eq]; exact h)

theorem laws_eqAccessS.con {xs0 : List D.Access} {A0 : Option Addr} {c0 : Nat} {xs1 : List D.Access} {A1 : Option Addr} {c1 : Nat} {r : Bool} {w : World} (hp : M.laws_eqAccessS_pre xs0 xs1) (hr : r = M.laws_eqAccessS xs0 xs1) (R0 : Row el81 w A0 xs0) (hc0 : xs0.length ≤ c0) (R1 : Row el81 w A1 xs1) (hc1 : xs1.length ≤ c1) :
    Cll Try.prog 24 #[(.slice A0 xs0.length c0), (.slice A1 xs1.length c1)] w (fun v_ w_ => v_ = (.bool r) ∧ Ext w w_) := by
  have H := wp.laws_eqAccessS.math xs0 xs1 hp
  have hB := Ext.refl w
  refine laws_eqAccessS.start ?_
  unfold laws_eqAccessS.vc
  unfold wp.laws_eqAccessS at H
  refine bcase_mk (fun hc52 => ?_) (fun hc52 => ?_)
  · have H := (bcase_iff.1 H).1 hc52
    obtain rfl := hr.trans H.symm
    exact ⟨rfl, hB⟩
  · have H := (bcase_iff.1 H).2 hc52
    obtain ⟨J23, ⟨m50, hJ49⟩, hS24⟩ := H
    refine ⟨fun m_ z_ w_ => ∃ (i21 : Int), z_ = (i21, ()) ∧ J23 m_ (i21, ()) ∧ Ext w w_, ⟨m50, 0, rfl, hJ49, hB⟩, ?_⟩
    rintro m22 _ w26 ⟨i21, rfl, hJ51, hB⟩
    have H := hS24 m22 _ hJ51
    clear hS24 hJ51
    dsimp only at H ⊢
    refine bcase_mk (fun hc47 => ?_) (fun hc47 => ?_)
    · have H := (bcase_iff.1 H).1 hc47
      refine ⟨(fun _ => False), ?_⟩
      obtain ⟨⟨h0_31, h1_32⟩, H⟩ := H
      obtain ⟨a29, ha30, hat28⟩ := Row.at (R0.ext hB) h0_31 h1_32
      refine ⟨h0_31, h1_32, a29, ha30, ?_⟩
      refine ⟨_, ⟨(fun h_ => h_), (hat28 0 _ rfl)⟩, ?_⟩
      refine ⟨_, ⟨(fun h_ => h_), (hat28 1 _ rfl)⟩, ?_⟩
      refine ⟨_, ⟨(fun h_ => h_), (hat28 2 _ rfl)⟩, ?_⟩
      refine ⟨_, ⟨(fun h_ => h_), (hat28 3 _ rfl)⟩, ?_⟩
      obtain ⟨⟨h0_36, h1_37⟩, H⟩ := H
      obtain ⟨a34, ha35, hat33⟩ := Row.at (R1.ext hB) h0_36 h1_37
      refine ⟨h0_36, h1_37, a34, ha35, ?_⟩
      refine ⟨_, ⟨(fun h_ => h_), (hat33 0 _ rfl)⟩, ?_⟩
      refine ⟨_, ⟨(fun h_ => h_), (hat33 1 _ rfl)⟩, ?_⟩
      refine ⟨_, ⟨(fun h_ => h_), (hat33 2 _ rfl)⟩, ?_⟩
      refine ⟨_, ⟨(fun h_ => h_), (hat33 3 _ rfl)⟩, ?_⟩
      have hS27 := Chg.refl (fun _ => False) w26
      have hB := ethen hB (Ext.drew _)
      have hS27 := hS27.then (Ext.drew _)
      obtain ⟨r38, hr39⟩ : ∃ r_, r_ = M.laws_eqAccess (rd xs0 i21) (rd xs1 i21) := ⟨_, rfl⟩
      have H := H r38 hr39
      refine (laws_eqAccess.con hr39 ).mono ?_
      rintro _ w41 ⟨rfl, e42⟩
      have hB := ethen hB e42
      have hS27 := hS27.then e42
      refine ⟨r38, rfl, ?_⟩
      refine ⟨sameBut_chg hS27, ?_⟩
      refine bcase_mk (fun hc46 => ?_) (fun hc46 => ?_)
      · have H := (bcase_iff.1 H).1 hc46
        obtain rfl := hr.trans H.symm
        exact ⟨rfl, hB⟩
      · have H := (bcase_iff.1 H).2 hc46
        obtain ⟨m43, hm44, hJ45⟩ := H
        exact ⟨m43, hm44, (IntKind.wrap .i64 (i21 + 1)), rfl, hJ45, hB⟩
    · have H := (bcase_iff.1 H).2 hc47
      obtain rfl := hr.trans H.symm
      exact ⟨rfl, hB⟩

end Go.V
