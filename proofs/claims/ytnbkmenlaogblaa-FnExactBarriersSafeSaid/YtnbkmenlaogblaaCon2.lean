import Derived.Test.YtnbkmenlaogblaaMath2
import Derived.Test.YtnbkmenlaogblaaSeat
import Derived.Test.YtnbkmenlaogblaaCon1
namespace Go.V
open Go.Proofs
set_option linter.unusedVariables false
set_option linter.unusedSimpArgs false
set_option maxRecDepth 100000

def laws_markIntS.vc (A0 : Option Addr) (n0 : Nat) (c0 : Nat) (x1 : Int) (w : World) (K : Value → World → Prop) : Prop :=
  LoopT (σ := Int × Int × Unit) (fun z21 w22 next23 => bcase (decide (z21.2.1 < ((n0 : Nat) : Int))) (((0 : Int) ≤ z21.2.1 ∧ z21.2.1 < ((n0 : Nat) : Int) ∧ ∃ a24 : Addr, A0 = some a24 ∧ stCells (a24.add ((z21.2.1.toNat) * 1)) [(.int .i64 z21.1)] 0 w22 fun w25 => next23 ((IntKind.wrap .i64 (z21.1 + 1)), (IntKind.wrap .i64 (z21.2.1 + 1)), ()) w25)) (K (.int .i64 z21.1) w22)) (x1, 0, ()) w

def laws_markIntS.ann : Ann := (.seq .l (.seq (.seq .l (.one (.loop [(1, .int .i64), (5, .int .i64)] (.seq (.seq .l (.two .l .l)) (.seq (.one (.seq .l .l)) .l))))) (.seq .l .l)))

theorem laws_markIntS.vc_eq (A0 : Option Addr) (n0 : Nat) (c0 : Nat) (x1 : Int) (w : World) (K : Value → World → Prop) : vcF Try.prog Try.f27 laws_markIntS.ann [(.slice A0 n0 c0), (.int .i64 x1)] K w = laws_markIntS.vc A0 n0 c0 x1 w K := by kernel_rfl

theorem laws_markIntS.start {A0 : Option Addr} {n0 : Nat} {c0 : Nat} {x1 : Int} {w : World} {K : Value → World → Prop} (h : laws_markIntS.vc A0 n0 c0 x1 w K) : Cll Try.prog 27 #[(.slice A0 n0 c0), (.int .i64 x1)] w K :=
  vcF_sound mixed (fn := Try.f27) (by kernel_rfl) (by kernel_rfl) (an := laws_markIntS.ann) (args := [(.slice A0 n0 c0), (.int .i64 x1)]) (by rw [laws_markIntS.vc_eq]; exact h)

theorem laws_markIntS.con {xs0 : List Int} {A0 : Option Addr} {c0 : Nat} {x1 : Int} {r : Int × (List Int)} {w : World} (hp : M.laws_markIntS_pre xs0 x1) (hr : r = M.laws_markIntS xs0 x1) (O1 : Own el3 w 0 A0 c0 xs0) :
    Cll Try.prog 27 #[(.slice A0 xs0.length c0), (.int .i64 x1)] w (fun v_ w_ => v_ = (.int .i64 r.1) ∧ Own el3 w_ 0 A0 c0 r.2 ∧ r.2.length = xs0.length ∧ Chg (InB A0) w w_) := by
  have H := wp.laws_markIntS.math xs0 x1 hp
  have hB := Chg.refl (InB A0) w
  refine laws_markIntS.start ?_
  unfold laws_markIntS.vc
  unfold wp.laws_markIntS at H
  obtain ⟨J41, ⟨m59, hJ58⟩, hS42⟩ := H
  refine ⟨fun m_ z_ w_ => ∃ (i36 : Int) (i37 : Int) (xs38 : List Int), z_ = (i36, i37, ()) ∧ J41 m_ (i36, i37, xs38, ()) ∧ Chg (InB A0) w w_ ∧ Own el3 w_ 0 A0 c0 xs38 ∧ xs0.length = xs38.length, ⟨m59, x1, 0, xs0, rfl, hJ58, hB, O1, (by first | rfl | assumption | (simp; done) | (simp; omega) | (simp; assumption))⟩, ?_⟩
  rintro m40 _ w44 ⟨i36, i37, xs38, rfl, hJ60, hB, O1, hn39⟩
  have H := hS42 m40 _ hJ60
  clear hS42 hJ60
  dsimp only at H ⊢
  refine bcase_mk (fun hc56 => ?_) (fun hc56 => ?_)
  · have H := (bcase_iff.1 H).1 hc56
    obtain ⟨⟨h0_48, h1_49⟩, H⟩ := H
    obtain ⟨a46, ha47, hat45⟩ := Row.at O1.row h0_48 h1_49
    refine ⟨h0_48, (by first | exact h1_49 | omega | (simp at h1_49 ⊢; omega)), a46, ha47, ?_⟩
    refine Own.storeAt O1 ha47 h0_48 h1_49 0 [(.int .i64 i36)] i36 rfl (Nat.le_of_ble_eq_true rfl) rfl (fun w50 P1 e51 hb52 => ?_)
    have hB := hB.chgb e51 (Or.inr ⟨_, ha47, rfl⟩)
    have O1 := P1
    obtain ⟨m53, hm54, hJ55⟩ := H
    exact ⟨m53, hm54, (IntKind.wrap .i64 (i36 + 1)), (IntKind.wrap .i64 (i37 + 1)), (List.set xs38 (i37.toNat) i36), rfl, hJ55, hB, O1, (by first | rfl | assumption | (simp; done) | (simp; omega) | (simp; assumption))⟩
  · have H := (bcase_iff.1 H).2 hc56
    obtain rfl := hr.trans H.symm
    exact ⟨rfl, O1, (by first | (simp only [List.length_set]; done) | (simp only [List.length_set, ← hn39]; done) | (simp; done) | (simp; omega) | omega), hB⟩

def laws_heldIntS.vc (A0 : Option Addr) (n0 : Nat) (c0 : Nat) (x1 : Int) (w : World) (K : Value → World → Prop) : Prop :=
  LoopT (σ := Int × Int × Unit) (fun z21 w22 next23 => bcase (decide (z21.2.1 < ((n0 : Nat) : Int))) (((0 : Int) ≤ z21.2.1 ∧ z21.2.1 < ((n0 : Nat) : Int) ∧ ∃ a24 : Addr, A0 = some a24 ∧ ∃ (n25 : Int), w22.cell? ((a24.add ((z21.2.1.toNat) * 1)).add 0) = some (.int .i64 n25) ∧ bcase (n25 != z21.1) (K (.int .i64 (-1)) w22) (next23 ((IntKind.wrap .i64 (z21.1 + 1)), (IntKind.wrap .i64 (z21.2.1 + 1)), ()) w22))) (K (.int .i64 z21.1) w22)) (x1, 0, ()) w

def laws_heldIntS.ann : Ann := (.seq .l (.seq (.seq .l (.one (.loop [(1, .int .i64), (5, .int .i64)] (.seq (.seq .l (.two .l .l)) (.seq (.one (.seq (.seq .l (.two (.seq .l .l) .l)) .l)) .l))))) (.seq .l .l)))

theorem laws_heldIntS.vc_eq (A0 : Option Addr) (n0 : Nat) (c0 : Nat) (x1 : Int) (w : World) (K : Value → World → Prop) : vcF Try.prog Try.f71 laws_heldIntS.ann [(.slice A0 n0 c0), (.int .i64 x1)] K w = laws_heldIntS.vc A0 n0 c0 x1 w K := by kernel_rfl

theorem laws_heldIntS.start {A0 : Option Addr} {n0 : Nat} {c0 : Nat} {x1 : Int} {w : World} {K : Value → World → Prop} (h : laws_heldIntS.vc A0 n0 c0 x1 w K) : Cll Try.prog 71 #[(.slice A0 n0 c0), (.int .i64 x1)] w K :=
  vcF_sound mixed (fn := Try.f71) (by kernel_rfl) (by kernel_rfl) (an := laws_heldIntS.ann) (args := [(.slice A0 n0 c0), (.int .i64 x1)]) (by rw [laws_heldIntS.vc_eq]; exact h)

theorem laws_heldIntS.con {xs0 : List Int} {A0 : Option Addr} {c0 : Nat} {x1 : Int} {r : Int} {w : World} (hp : M.laws_heldIntS_pre xs0 x1) (hr : r = M.laws_heldIntS xs0 x1) (R0 : Row el3 w A0 xs0) (hc0 : xs0.length ≤ c0) :
    Cll Try.prog 71 #[(.slice A0 xs0.length c0), (.int .i64 x1)] w (fun v_ w_ => v_ = (.int .i64 r) ∧ Ext w w_) := by
  have H := wp.laws_heldIntS.math xs0 x1 hp
  have hB := Ext.refl w
  refine laws_heldIntS.start ?_
  unfold laws_heldIntS.vc
  unfold wp.laws_heldIntS at H
  obtain ⟨J24, ⟨m40, hJ39⟩, hS25⟩ := H
  refine ⟨fun m_ z_ w_ => ∃ (i21 : Int) (i22 : Int), z_ = (i21, i22, ()) ∧ J24 m_ (i21, i22, ()) ∧ Ext w w_, ⟨m40, x1, 0, rfl, hJ39, hB⟩, ?_⟩
  rintro m23 _ w27 ⟨i21, i22, rfl, hJ41, hB⟩
  have H := hS25 m23 _ hJ41
  clear hS25 hJ41
  dsimp only at H ⊢
  refine bcase_mk (fun hc37 => ?_) (fun hc37 => ?_)
  · have H := (bcase_iff.1 H).1 hc37
    obtain ⟨⟨h0_31, h1_32⟩, H⟩ := H
    obtain ⟨a29, ha30, hat28⟩ := Row.at (R0.ext hB) h0_31 h1_32
    refine ⟨h0_31, h1_32, a29, ha30, ?_⟩
    refine ⟨_, (hat28 0 _ rfl), ?_⟩
    refine bcase_mk (fun hc36 => ?_) (fun hc36 => ?_)
    · have H := (bcase_iff.1 H).1 hc36
      obtain rfl := hr.trans H.symm
      exact ⟨rfl, hB⟩
    · have H := (bcase_iff.1 H).2 hc36
      obtain ⟨m33, hm34, hJ35⟩ := H
      exact ⟨m33, hm34, (IntKind.wrap .i64 (i21 + 1)), (IntKind.wrap .i64 (i22 + 1)), rfl, hJ35, hB⟩
  · have H := (bcase_iff.1 H).2 hc37
    obtain rfl := hr.trans H.symm
    exact ⟨rfl, hB⟩

end Go.V
