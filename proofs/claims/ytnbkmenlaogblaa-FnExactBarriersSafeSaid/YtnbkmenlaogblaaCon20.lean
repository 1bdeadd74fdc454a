import Derived.Test.YtnbkmenlaogblaaMath20
import Derived.Test.YtnbkmenlaogblaaSeat
import Derived.Test.YtnbkmenlaogblaaVCut
import Derived.Test.YtnbkmenlaogblaaCon19
namespace Go.V
open Go.Proofs
set_option linter.unusedVariables false
set_option linter.unusedSimpArgs false
set_option maxRecDepth 100000

def cmp_isNaN_int.vc (x0 : Int) (w : World) (K : Value → World → Prop) : Prop :=
  K (.bool (x0 != x0)) w

def cmp_isNaN_int.ann : Ann := (.seq .l (.seq .l .l))

theorem cmp_isNaN_int.vc_eq (x0 : Int) (w : World) (K : Value → World → Prop) : vcF Try.prog Try.f226 cmp_isNaN_int.ann [(.int .i64 x0)] K w = cmp_isNaN_int.vc x0 w K := by kernel_rfl

theorem cmp_isNaN_int.start {x0 : Int} {w : World} {K : Value → World → Prop} (h : cmp_isNaN_int.vc x0 w K) : Cll Try.prog 226 #[(.int .i64 x0)] w K :=
  vcF_sound mixed (fn := Try.f226) (by kernel_rfl) (by kernel_rfl) (an := cmp_isNaN_int.ann) (args := [(.int .i64 x0)]) (by rw [cmp_isNaN_int.vc_eq]; exact h)

theorem cmp_isNaN_int.con {x0 : Int} {r : Bool} {w : World} (hr : r = M.cmp_isNaN_int x0)  :
    Cll Try.prog 226 #[(.int .i64 x0)] w (fun v_ w_ => v_ = (.bool r) ∧ Ext w w_) := by
  have H := wp.cmp_isNaN_int.math x0
  have hB := Ext.refl w
  refine cmp_isNaN_int.start ?_
  unfold cmp_isNaN_int.vc
  unfold wp.cmp_isNaN_int at H
  obtain rfl := hr.trans H.symm
  exact ⟨rfl, hB⟩

def cmp_Less_int.vc (x0 : Int) (x1 : Int) (w : World) (K : Value → World → Prop) : Prop :=
  Cll Try.prog 226 #[(.int .i64 x0)] w fun v21 w22 => (∃ (b23 : Bool), v21 = (.bool b23) ∧ bcase b23 (Cll Try.prog 226 #[(.int .i64 x1)] w22 fun v24 w25 => (∃ (b26 : Bool), v24 = (.bool b26) ∧ bcase (!b26) (K (.bool true) w25) (K (.bool (decide (x0 < x1))) w25))) (K (.bool (decide (x0 < x1))) w22))

def cmp_Less_int.ann : Ann := (.seq .l (.seq .l .l))

theorem cmp_Less_int.vc_eq (x0 : Int) (x1 : Int) (w : World) (K : Value → World → Prop) : vcF Try.prog Try.f204 cmp_Less_int.ann [(.int .i64 x0), (.int .i64 x1)] K w = cmp_Less_int.vc x0 x1 w K := by kernel_rfl

theorem cmp_Less_int.start {x0 : Int} {x1 : Int} {w : World} {K : Value → World → Prop} (h : cmp_Less_int.vc x0 x1 w K) : Cll Try.prog 204 #[(.int .i64 x0), (.int .i64 x1)] w K :=
  vcF_sound mixed (fn := Try.f204) (by kernel_rfl) (by kernel_rfl) (an := cmp_Less_int.ann) (args := [(.int .i64 x0), (.int .i64 x1)]) (by rw [cmp_Less_int.vc_eq]; exact h)

theorem cmp_Less_int.con {x0 : Int} {x1 : Int} {r : Bool} {w : World} (hr : r = M.cmp_Less_int x0 x1)  :
    Cll Try.prog 204 #[(.int .i64 x0), (.int .i64 x1)] w (fun v_ w_ => v_ = (.bool r) ∧ Ext w w_) := by
  have H := wp.cmp_Less_int.math x0 x1
  have hB := Ext.refl w
  refine cmp_Less_int.start ?_
  unfold cmp_Less_int.vc
  unfold wp.cmp_Less_int at H
  obtain ⟨r21, hr22⟩ : ∃ r_, r_ = M.cmp_isNaN_int x0 := ⟨_, rfl⟩
  have H := H r21 hr22
  refine (cmp_isNaN_int.con hr22 ).mono ?_
  rintro _ w24 ⟨rfl, e25⟩
  have hB := ethen hB e25
  refine ⟨r21, rfl, ?_⟩
  refine bcase_mk (fun hc32 => ?_) (fun hc32 => ?_)
  · have H := (bcase_iff.1 H).1 hc32
    obtain ⟨r26, hr27⟩ : ∃ r_, r_ = M.cmp_isNaN_int x1 := ⟨_, rfl⟩
    have H := H r26 hr27
    refine (cmp_isNaN_int.con hr27 ).mono ?_
    rintro _ w29 ⟨rfl, e30⟩
    have hB := ethen hB e30
    refine ⟨r26, rfl, ?_⟩
    refine bcase_mk (fun hc31 => ?_) (fun hc31 => ?_)
    · have H := (bcase_iff.1 H).1 hc31
      obtain rfl := hr.trans H.symm
      exact ⟨rfl, hB⟩
    · have H := (bcase_iff.1 H).2 hc31
      obtain rfl := hr.trans H.symm
      exact ⟨rfl, hB⟩
  · have H := (bcase_iff.1 H).2 hc32
    obtain rfl := hr.trans H.symm
    exact ⟨rfl, hB⟩

def slices_insertionSortOrdered_int.vc (A0 : Option Addr) (n0 : Nat) (c0 : Nat) (x1 : Int) (x2 : Int) (w : World) (K : Value → World → Prop) : Prop :=
  LoopT (σ := Int × Unit) (fun z21 w22 next23 => bcase (decide (z21.1 < x2)) (LoopT (σ := Int × Unit) (fun z24 w25 next26 => JoinT (σ := Unit) (fun J27 => bcase (decide (z24.1 > x1)) (((0 : Int) ≤ z24.1 ∧ z24.1 < ((n0 : Nat) : Int) ∧ ∃ a28 : Addr, A0 = some a28 ∧ ((0 : Int) ≤ (IntKind.wrap .i64 (z24.1 - 1)) ∧ (IntKind.wrap .i64 (z24.1 - 1)) < ((n0 : Nat) : Int) ∧ ∃ a29 : Addr, A0 = some a29 ∧ ((∃ (n30 : Int), w25.drew.cell? ((a28.add ((z24.1.toNat) * 1)).add 0) = some (.int .i64 n30) ∧ ((∃ (n31 : Int), w25.drew.cell? ((a29.add (((IntKind.wrap .i64 (z24.1 - 1)).toNat) * 1)).add 0) = some (.int .i64 n31) ∧ ((Cll Try.prog 204 #[(.int .i64 n30), (.int .i64 n31)] w25.drew fun v32 w33 => (∃ (b34 : Bool), v32 = (.bool b34) ∧ bcase b34 (J27 () w33) (next23 ((IntKind.wrap .i64 (z21.1 + 1)), ()) w33))) ∧ True)) ∧ True)) ∧ (∃ (n35 : Int), w25.drew.cell? ((a29.add (((IntKind.wrap .i64 (z24.1 - 1)).toNat) * 1)).add 0) = some (.int .i64 n35) ∧ ((∃ (n36 : Int), w25.drew.cell? ((a28.add ((z24.1.toNat) * 1)).add 0) = some (.int .i64 n36) ∧ ((Cll Try.prog 204 #[(.int .i64 n36), (.int .i64 n35)] w25.drew fun v37 w38 => (∃ (b39 : Bool), v37 = (.bool b39) ∧ bcase b39 (J27 () w38) (next23 ((IntKind.wrap .i64 (z21.1 + 1)), ()) w38))) ∧ True)) ∧ True)) ∧ True)))) (((((((next23 ((IntKind.wrap .i64 (z21.1 + 1)), ()) w25.drew) ∧ True)) ∧ True)) ∧ (((((next23 ((IntKind.wrap .i64 (z21.1 + 1)), ()) w25.drew) ∧ True)) ∧ True)) ∧ True))) fun z40 w41 => ((0 : Int) ≤ (IntKind.wrap .i64 (z24.1 - 1)) ∧ (IntKind.wrap .i64 (z24.1 - 1)) < ((n0 : Nat) : Int) ∧ ∃ a42 : Addr, A0 = some a42 ∧ ((0 : Int) ≤ z24.1 ∧ z24.1 < ((n0 : Nat) : Int) ∧ ∃ a43 : Addr, A0 = some a43 ∧ ((∃ (n44 : Int), w41.drew.cell? ((a42.add (((IntKind.wrap .i64 (z24.1 - 1)).toNat) * 1)).add 0) = some (.int .i64 n44) ∧ ((∃ (n45 : Int), w41.drew.cell? ((a43.add ((z24.1.toNat) * 1)).add 0) = some (.int .i64 n45) ∧ ((0 : Int) ≤ z24.1 ∧ z24.1 < ((n0 : Nat) : Int) ∧ ∃ a46 : Addr, A0 = some a46 ∧ ((stCells (a46.add ((z24.1.toNat) * 1)) [(.int .i64 n44)] 0 w41.drew fun w47 => ((0 : Int) ≤ (IntKind.wrap .i64 (z24.1 - 1)) ∧ (IntKind.wrap .i64 (z24.1 - 1)) < ((n0 : Nat) : Int) ∧ ∃ a48 : Addr, A0 = some a48 ∧ ((stCells (a48.add (((IntKind.wrap .i64 (z24.1 - 1)).toNat) * 1)) [(.int .i64 n45)] 0 w47 fun w49 => next26 ((IntKind.wrap .i64 (z24.1 - 1)), ()) w49) ∧ True))) ∧ True))) ∧ True)) ∧ (∃ (n50 : Int), w41.drew.cell? ((a43.add ((z24.1.toNat) * 1)).add 0) = some (.int .i64 n50) ∧ ((∃ (n51 : Int), w41.drew.cell? ((a42.add (((IntKind.wrap .i64 (z24.1 - 1)).toNat) * 1)).add 0) = some (.int .i64 n51) ∧ ((0 : Int) ≤ z24.1 ∧ z24.1 < ((n0 : Nat) : Int) ∧ ∃ a52 : Addr, A0 = some a52 ∧ ((stCells (a52.add ((z24.1.toNat) * 1)) [(.int .i64 n51)] 0 w41.drew fun w53 => ((0 : Int) ≤ (IntKind.wrap .i64 (z24.1 - 1)) ∧ (IntKind.wrap .i64 (z24.1 - 1)) < ((n0 : Nat) : Int) ∧ ∃ a54 : Addr, A0 = some a54 ∧ ((stCells (a54.add (((IntKind.wrap .i64 (z24.1 - 1)).toNat) * 1)) [(.int .i64 n50)] 0 w53 fun w55 => next26 ((IntKind.wrap .i64 (z24.1 - 1)), ()) w55) ∧ True))) ∧ True))) ∧ True)) ∧ True)))) (z21.1, ()) w22) (K (.tuple #[]) w22)) ((IntKind.wrap .i64 (x1 + 1)), ()) w

def slices_insertionSortOrdered_int.ann : Ann := (.seq .l (.one (.loop [(6, .int .i64)] (.seq (.seq .l (.two .l .l)) (.seq (.one (.seq .l (.one (.loop [(7, .int .i64)] (.cut [] (.seq .each (.two .l .l)) (.seq (.one .each) .l)))))) .l)))))

theorem slices_insertionSortOrdered_int.vc_eq (A0 : Option Addr) (n0 : Nat) (c0 : Nat) (x1 : Int) (x2 : Int) (w : World) (K : Value → World → Prop) : vcF Try.prog Try.f198 slices_insertionSortOrdered_int.ann [(.slice A0 n0 c0), (.int .i64 x1), (.int .i64 x2)] K w = slices_insertionSortOrdered_int.vc A0 n0 c0 x1 x2 w K := by kernel_rfl

theorem slices_insertionSortOrdered_int.start {A0 : Option Addr} {n0 : Nat} {c0 : Nat} {x1 : Int} {x2 : Int} {w : World} {K : Value → World → Prop} (h : slices_insertionSortOrdered_int.vc A0 n0 c0 x1 x2 w K) : Cll Try.prog 198 #[(.slice A0 n0 c0), (.int .i64 x1), (.int .i64 x2)] w K :=
  vcF_sound mixed (fn := Try.f198) (by kernel_rfl) (by kernel_rfl) (an := slices_insertionSortOrdered_int.ann) (args := [(.slice A0 n0 c0), (.int .i64 x1), (.int .i64 x2)]) (by rw [slices_insertionSortOrdered_int.vc_eq]; exact h)

theorem slices_insertionSortOrdered_int.con {xs0 : List Int} {A0 : Option Addr} {c0 : Nat} {x1 : Int} {x2 : Int} {r : (List Int)} {w : World} (hp : M.slices_insertionSortOrdered_int_pre xs0 x1 x2) (hr : r = M.slices_insertionSortOrdered_int xs0 x1 x2) (O1 : Own el3 w 0 A0 c0 xs0) :
    Cll Try.prog 198 #[(.slice A0 xs0.length c0), (.int .i64 x1), (.int .i64 x2)] w (fun v_ w_ => v_ = (.tuple #[]) ∧ Own el3 w_ 0 A0 c0 r ∧ r.length = xs0.length ∧ Chg (InB A0) w w_) := by
  have H := wp.slices_insertionSortOrdered_int.math xs0 x1 x2 hp
  have hB := Chg.refl (InB A0) w
  refine slices_insertionSortOrdered_int.start ?_
  unfold slices_insertionSortOrdered_int.vc
  unfold wp.slices_insertionSortOrdered_int at H
  obtain ⟨J124, ⟨m301, hJ300⟩, hS125⟩ := H
  refine ⟨fun m_ z_ w_ => ∃ (i120 : Int) (xs121 : List Int), z_ = (i120, ()) ∧ J124 m_ (i120, xs121, ()) ∧ Chg (InB A0) w w_ ∧ Own el3 w_ 0 A0 c0 xs121 ∧ xs0.length = xs121.length, ⟨m301, (IntKind.wrap .i64 (x1 + 1)), xs0, rfl, hJ300, hB, O1, (by first | rfl | assumption | (simp; done) | (simp; omega) | (simp; assumption))⟩, ?_⟩
  rintro m123 _ w127 ⟨i120, xs121, rfl, hJ302, hB, O1, hn122⟩
  have H := hS125 m123 _ hJ302
  clear hS125 hJ302
  try dsimp only at H ⊢
  refine bcase_mk (fun hc298 => ?_) (fun hc298 => ?_)
  · have H := (bcase_iff.1 H).1 hc298
    obtain ⟨J202, ⟨m296, hJ295⟩, hS203⟩ := H
    refine ⟨fun m_ z_ w_ => ∃ (i198 : Int) (xs199 : List Int), z_ = (i198, ()) ∧ J202 m_ (i198, xs199, ()) ∧ Chg (InB A0) w w_ ∧ Own el3 w_ 0 A0 c0 xs199 ∧ xs0.length = xs199.length, ⟨m296, i120, xs121, rfl, hJ295, hB, O1, (by first | rfl | assumption | (simp; done) | (simp; omega) | (simp; assumption))⟩, ?_⟩
    rintro m201 _ w205 ⟨i198, xs199, rfl, hJ297, hB, O1, hn200⟩
    have H := hS203 m201 _ hJ297
    clear hS203 hJ297
    try dsimp only at H ⊢
    obtain ⟨K293, hKK293, H⟩ := joinP_out H
    refine ⟨fun z_ w_ => z_ = (()) ∧ K293 (()) ∧ Chg (InB A0) w w_ ∧ Own el3 w_ 0 A0 c0 xs199, ?_, ?_⟩
    · have O1 := O1.ext (Ext.drew _)
      have hB := hB.then (Ext.drew _)
      refine bcase_mk (fun hc243 => ?_) (fun hc243 => ?_)
      · have H := (bcase_iff.1 H).1 hc243
        obtain ⟨⟨h0_212, h1_213⟩, H⟩ := H
        obtain ⟨a210, ha211, hat209⟩ := Row.at O1.row h0_212 h1_213
        refine ⟨h0_212, (by first | exact h1_213 | omega | (simp at h1_213 ⊢; omega)), a210, ha211, ?_⟩
        obtain ⟨⟨h0_217, h1_218⟩, H⟩ := H
        obtain ⟨a215, ha216, hat214⟩ := Row.at O1.row h0_217 h1_218
        refine ⟨h0_217, (by first | exact h1_218 | omega | (simp at h1_218 ⊢; omega)), a215, ha216, ?_⟩
        refine And.intro ?_ ?_
        · have H := H.1
          refine ⟨_, (hat209 0 _ rfl), ?_⟩
          refine and_t ?_
          refine ⟨_, (hat214 0 _ rfl), ?_⟩
          refine and_t ?_
          obtain ⟨r219, hr220⟩ : ∃ r_, r_ = M.cmp_Less_int (rd xs199 i198) (rd xs199 (IntKind.wrap .i64 (i198 - 1))) := ⟨_, rfl⟩
          have H := H r219 hr220
          refine (cmp_Less_int.con hr220 ).mono ?_
          rintro _ w222 ⟨rfl, e223⟩
          have O1 := O1.ext e223
          have hB := hB.then e223
          refine ⟨r219, rfl, ?_⟩
          refine bcase_mk (fun hc227 => ?_) (fun hc227 => ?_)
          · have H := (bcase_iff.1 H).1 hc227
            exact ⟨rfl, H, hB, O1⟩
          · have H := (bcase_iff.1 H).2 hc227
            obtain ⟨m224, hm225, hJ226⟩ := H
            exact ⟨m224, hm225, (IntKind.wrap .i64 (i120 + 1)), xs199, rfl, hJ226, hB, O1, (by first | rfl | assumption | (simp; done) | (simp; omega) | (simp; assumption))⟩
        · refine And.intro ?_ ?_
          · have H := H.2.1
            refine ⟨_, (hat214 0 _ rfl), ?_⟩
            refine and_t ?_
            refine ⟨_, (hat209 0 _ rfl), ?_⟩
            refine and_t ?_
            obtain ⟨r228, hr229⟩ : ∃ r_, r_ = M.cmp_Less_int (rd xs199 i198) (rd xs199 (IntKind.wrap .i64 (i198 - 1))) := ⟨_, rfl⟩
            have H := H r228 hr229
            refine (cmp_Less_int.con hr229 ).mono ?_
            rintro _ w231 ⟨rfl, e232⟩
            have O1 := O1.ext e232
            have hB := hB.then e232
            refine ⟨r228, rfl, ?_⟩
            refine bcase_mk (fun hc236 => ?_) (fun hc236 => ?_)
            · have H := (bcase_iff.1 H).1 hc236
              exact ⟨rfl, H, hB, O1⟩
            · have H := (bcase_iff.1 H).2 hc236
              obtain ⟨m233, hm234, hJ235⟩ := H
              exact ⟨m233, hm234, (IntKind.wrap .i64 (i120 + 1)), xs199, rfl, hJ235, hB, O1, (by first | rfl | assumption | (simp; done) | (simp; omega) | (simp; assumption))⟩
          · exact trivial
      · have H := (bcase_iff.1 H).2 hc243
        refine And.intro ?_ ?_
        · have H := H.1
          refine and_t ?_
          refine and_t ?_
          obtain ⟨m237, hm238, hJ239⟩ := H
          exact ⟨m237, hm238, (IntKind.wrap .i64 (i120 + 1)), xs199, rfl, hJ239, hB, O1, (by first | rfl | assumption | (simp; done) | (simp; omega) | (simp; assumption))⟩
        · refine And.intro ?_ ?_
          · have H := H.2.1
            refine and_t ?_
            refine and_t ?_
            obtain ⟨m240, hm241, hJ242⟩ := H
            exact ⟨m240, hm241, (IntKind.wrap .i64 (i120 + 1)), xs199, rfl, hJ242, hB, O1, (by first | rfl | assumption | (simp; done) | (simp; omega) | (simp; assumption))⟩
          · exact trivial
    · rintro _ w207 ⟨rfl, H, hB, O1⟩
      have H := hKK293 _ H
      try dsimp only at H ⊢
      have O1 := O1.ext (Ext.drew _)
      have hB := hB.then (Ext.drew _)
      obtain ⟨⟨h0_247, h1_248⟩, H⟩ := H
      obtain ⟨a245, ha246, hat244⟩ := Row.at O1.row h0_247 h1_248
      refine ⟨h0_247, (by first | exact h1_248 | omega | (simp at h1_248 ⊢; omega)), a245, ha246, ?_⟩
      obtain ⟨⟨h0_252, h1_253⟩, H⟩ := H
      obtain ⟨a250, ha251, hat249⟩ := Row.at O1.row h0_252 h1_253
      refine ⟨h0_252, (by first | exact h1_253 | omega | (simp at h1_253 ⊢; omega)), a250, ha251, ?_⟩
      refine And.intro ?_ ?_
      · have H := H.1
        refine ⟨_, (hat244 0 _ rfl), ?_⟩
        refine and_t ?_
        refine ⟨_, (hat249 0 _ rfl), ?_⟩
        obtain ⟨⟨h0_257, h1_258⟩, H⟩ := H
        obtain ⟨a255, ha256, hat254⟩ := Row.at O1.row h0_257 h1_258
        refine ⟨h0_257, (by first | exact h1_258 | omega | (simp at h1_258 ⊢; omega)), a255, ha256, ?_⟩
        refine and_t ?_
        refine Own.storeAt O1 ha256 h0_257 h1_258 0 [(.int .i64 (rd xs199 (IntKind.wrap .i64 (i198 - 1))))] (rd xs199 (IntKind.wrap .i64 (i198 - 1))) rfl (Nat.le_of_ble_eq_true rfl) rfl (fun w259 P1 e260 hb261 => ?_)
        have hB := hB.chgb e260 (Or.inr ⟨_, ha256, rfl⟩)
        have O1 := P1
        obtain ⟨⟨h0_265, h1_266⟩, H⟩ := H
        obtain ⟨a263, ha264, hat262⟩ := Row.at O1.row h0_265 h1_266
        refine ⟨h0_265, (by first | exact h1_266 | omega | (simp at h1_266 ⊢; omega)), a263, ha264, ?_⟩
        refine and_t ?_
        refine Own.storeAt O1 ha264 h0_265 h1_266 0 [(.int .i64 (rd xs199 i198))] (rd xs199 i198) rfl (Nat.le_of_ble_eq_true rfl) rfl (fun w267 P1 e268 hb269 => ?_)
        have hB := hB.chgb e268 (Or.inr ⟨_, ha264, rfl⟩)
        have O1 := P1
        obtain ⟨m270, hm271, hJ272⟩ := H
        exact ⟨m270, hm271, (IntKind.wrap .i64 (i198 - 1)), (List.set (List.set xs199 (i198.toNat) (rd xs199 (IntKind.wrap .i64 (i198 - 1)))) ((IntKind.wrap .i64 (i198 - 1)).toNat) (rd xs199 i198)), rfl, hJ272, hB, O1, (by first | rfl | assumption | (simp; done) | (simp; omega) | (simp; assumption))⟩
      · refine And.intro ?_ ?_
        · have H := H.2.1
          refine ⟨_, (hat249 0 _ rfl), ?_⟩
          refine and_t ?_
          refine ⟨_, (hat244 0 _ rfl), ?_⟩
          obtain ⟨⟨h0_276, h1_277⟩, H⟩ := H
          obtain ⟨a274, ha275, hat273⟩ := Row.at O1.row h0_276 h1_277
          refine ⟨h0_276, (by first | exact h1_277 | omega | (simp at h1_277 ⊢; omega)), a274, ha275, ?_⟩
          refine and_t ?_
          refine Own.storeAt O1 ha275 h0_276 h1_277 0 [(.int .i64 (rd xs199 (IntKind.wrap .i64 (i198 - 1))))] (rd xs199 (IntKind.wrap .i64 (i198 - 1))) rfl (Nat.le_of_ble_eq_true rfl) rfl (fun w278 P1 e279 hb280 => ?_)
          have hB := hB.chgb e279 (Or.inr ⟨_, ha275, rfl⟩)
          have O1 := P1
          obtain ⟨⟨h0_284, h1_285⟩, H⟩ := H
          obtain ⟨a282, ha283, hat281⟩ := Row.at O1.row h0_284 h1_285
          refine ⟨h0_284, (by first | exact h1_285 | omega | (simp at h1_285 ⊢; omega)), a282, ha283, ?_⟩
          refine and_t ?_
          refine Own.storeAt O1 ha283 h0_284 h1_285 0 [(.int .i64 (rd xs199 i198))] (rd xs199 i198) rfl (Nat.le_of_ble_eq_true rfl) rfl (fun w286 P1 e287 hb288 => ?_)
          have hB := hB.chgb e287 (Or.inr ⟨_, ha283, rfl⟩)
          have O1 := P1
          obtain ⟨m289, hm290, hJ291⟩ := H
          exact ⟨m289, hm290, (IntKind.wrap .i64 (i198 - 1)), (List.set (List.set xs199 (i198.toNat) (rd xs199 (IntKind.wrap .i64 (i198 - 1)))) ((IntKind.wrap .i64 (i198 - 1)).toNat) (rd xs199 i198)), rfl, hJ291, hB, O1, (by first | rfl | assumption | (simp; done) | (simp; omega) | (simp; assumption))⟩
        · exact trivial
  · have H := (bcase_iff.1 H).2 hc298
    obtain rfl := hr.trans H.symm
    exact ⟨rfl, O1, (by first | (simp only [List.length_set]; done) | (simp only [List.length_set, ← hn122]; done) | (simp; done) | (simp; omega) | omega), hB⟩

def math_bits_Len32.vc (x0 : Int) (w : World) (K : Value → World → Prop) : Prop :=
  JoinT (σ := Int × Int × Unit) (fun J21 => bcase (decide (x0 ≥ 65536)) (((0 : Int) ≤ 16 ∧ J21 ((Int.fdiv x0 (2 ^ (min ((16 : Int).toNat) (IntKind.bits .u32)))), 16, ()) w)) (J21 (x0, 0, ()) w)) fun z22 w23 => JoinT (σ := Int × Int × Unit) (fun J24 => bcase (decide (z22.1 ≥ 256)) (((0 : Int) ≤ 8 ∧ J24 ((Int.fdiv z22.1 (2 ^ (min ((8 : Int).toNat) (IntKind.bits .u32)))), (IntKind.wrap .i64 (z22.2.1 + 8)), ()) w23)) (J24 (z22.1, z22.2.1, ()) w23)) fun z25 w26 => ((0 : Int) ≤ IntKind.wrap .u8 z25.1 ∧ ∃ y27 : UInt8, ((⟨#[0, 1, 2, 2, 3, 3, 3, 3, 4, 4, 4, 4, 4, 4, 4, 4, 5, 5, 5, 5, 5, 5, 5, 5, 5, 5, 5, 5, 5, 5, 5, 5, 6, 6, 6, 6, 6, 6, 6, 6, 6, 6, 6, 6, 6, 6, 6, 6, 6, 6, 6, 6, 6, 6, 6, 6, 6, 6, 6, 6, 6, 6, 6, 6, 7, 7, 7, 7, 7, 7, 7, 7, 7, 7, 7, 7, 7, 7, 7, 7, 7, 7, 7, 7, 7, 7, 7, 7, 7, 7, 7, 7, 7, 7, 7, 7, 7, 7, 7, 7, 7, 7, 7, 7, 7, 7, 7, 7, 7, 7, 7, 7, 7, 7, 7, 7, 7, 7, 7, 7, 7, 7, 7, 7, 7, 7, 7, 7, 8, 8, 8, 8, 8, 8, 8, 8, 8, 8, 8, 8, 8, 8, 8, 8, 8, 8, 8, 8, 8, 8, 8, 8, 8, 8, 8, 8, 8, 8, 8, 8, 8, 8, 8, 8, 8, 8, 8, 8, 8, 8, 8, 8, 8, 8, 8, 8, 8, 8, 8, 8, 8, 8, 8, 8, 8, 8, 8, 8, 8, 8, 8, 8, 8, 8, 8, 8, 8, 8, 8, 8, 8, 8, 8, 8, 8, 8, 8, 8, 8, 8, 8, 8, 8, 8, 8, 8, 8, 8, 8, 8, 8, 8, 8, 8, 8, 8, 8, 8, 8, 8, 8, 8, 8, 8, 8, 8, 8, 8, 8, 8, 8, 8, 8, 8, 8, 8, 8, 8, 8, 8, 8, 8, 8, 8, 8, 8]⟩) : ByteArray)[((IntKind.wrap .u8 z25.1).toNat)]? = some y27 ∧ K (.int .i64 (IntKind.wrap .i64 (z25.2.1 + (IntKind.wrap .i64 ((y27.toNat : Nat) : Int))))) w26)

def math_bits_Len32.ann : Ann := (.seq .l (.cut [(0, .int .u32), (2, .int .i64)] (.seq .l (.two (.seq .l .l) .l)) (.cut [(0, .int .u32), (2, .int .i64)] (.seq .l (.two (.seq .l .l) .l)) (.seq .l .l))))

theorem math_bits_Len32.vc_eq (x0 : Int) (w : World) (K : Value → World → Prop) : vcF Try.prog Try.f207 math_bits_Len32.ann [(.int .u32 x0)] K w = math_bits_Len32.vc x0 w K := by kernel_rfl

theorem math_bits_Len32.start {x0 : Int} {w : World} {K : Value → World → Prop} (h : math_bits_Len32.vc x0 w K) : Cll Try.prog 207 #[(.int .u32 x0)] w K :=
  vcF_sound mixed (fn := Try.f207) (by kernel_rfl) (by kernel_rfl) (an := math_bits_Len32.ann) (args := [(.int .u32 x0)]) (by rw [math_bits_Len32.vc_eq]; exact h)

theorem math_bits_Len32.con {x0 : Int} {r : Int} {w : World} (hp : M.math_bits_Len32_pre x0) (hr : r = M.math_bits_Len32 x0)  :
    Cll Try.prog 207 #[(.int .u32 x0)] w (fun v_ w_ => v_ = (.int .i64 r) ∧ Ext w w_) := by
  have H := wp.math_bits_Len32.math x0 hp
  have hB := Ext.refl w
  refine math_bits_Len32.start ?_
  unfold math_bits_Len32.vc
  unfold wp.math_bits_Len32 at H
  obtain ⟨K43, hKK43, H⟩ := joinP_out H
  refine ⟨fun z_ w_ => ∃ (i21 : Int) (i22 : Int), z_ = (i21, i22, ()) ∧ K43 (i21, i22, ()) ∧ Ext w w_, ?_, ?_⟩
  · refine bcase_mk (fun hc27 => ?_) (fun hc27 => ?_)
    · have H := (bcase_iff.1 H).1 hc27
      refine ⟨by decide, ?_⟩
      exact ⟨(Int.fdiv x0 (2 ^ (min ((16 : Int).toNat) (IntKind.bits .u32)))), 16, rfl, H, hB⟩
    · have H := (bcase_iff.1 H).2 hc27
      exact ⟨x0, 0, rfl, H, hB⟩
  · rintro _ w24 ⟨i21, i22, rfl, H, hB⟩
    have H := hKK43 _ H
    try dsimp only at H ⊢
    obtain ⟨K41, hKK41, H⟩ := joinP_out H
    refine ⟨fun z_ w_ => ∃ (i28 : Int) (i29 : Int), z_ = (i28, i29, ()) ∧ K41 (i28, i29, ()) ∧ Ext w w_, ?_, ?_⟩
    · refine bcase_mk (fun hc34 => ?_) (fun hc34 => ?_)
      · have H := (bcase_iff.1 H).1 hc34
        refine ⟨by decide, ?_⟩
        exact ⟨(Int.fdiv i21 (2 ^ (min ((8 : Int).toNat) (IntKind.bits .u32)))), (IntKind.wrap .i64 (i22 + 8)), rfl, H, hB⟩
      · have H := (bcase_iff.1 H).2 hc34
        exact ⟨i21, i22, rfl, H, hB⟩
    · rintro _ w31 ⟨i28, i29, rfl, H, hB⟩
      have H := hKK41 _ H
      try dsimp only at H ⊢
      obtain ⟨⟨h0_38, h1_39⟩, H⟩ := H
      obtain ⟨y35, hy36, hyb37⟩ := strAt h0_38 h1_39
      refine ⟨h0_38, y35, hy36, ?_⟩
      rw [hyb37]
      obtain rfl := hr.trans H.symm
      exact ⟨rfl, hB⟩

def math_bits_Len64.vc (x0 : Int) (w : World) (K : Value → World → Prop) : Prop :=
  JoinT (σ := Int × Int × Unit) (fun J21 => bcase (decide (x0 ≥ 4294967296)) (((0 : Int) ≤ 32 ∧ J21 ((Int.fdiv x0 (2 ^ (min ((32 : Int).toNat) (IntKind.bits .u64)))), 32, ()) w)) (J21 (x0, 0, ()) w)) fun z22 w23 => JoinT (σ := Int × Int × Unit) (fun J24 => bcase (decide (z22.1 ≥ 65536)) (((0 : Int) ≤ 16 ∧ J24 ((Int.fdiv z22.1 (2 ^ (min ((16 : Int).toNat) (IntKind.bits .u64)))), (IntKind.wrap .i64 (z22.2.1 + 16)), ()) w23)) (J24 (z22.1, z22.2.1, ()) w23)) fun z25 w26 => JoinT (σ := Int × Int × Unit) (fun J27 => bcase (decide (z25.1 ≥ 256)) (((0 : Int) ≤ 8 ∧ J27 ((Int.fdiv z25.1 (2 ^ (min ((8 : Int).toNat) (IntKind.bits .u64)))), (IntKind.wrap .i64 (z25.2.1 + 8)), ()) w26)) (J27 (z25.1, z25.2.1, ()) w26)) fun z28 w29 => ((0 : Int) ≤ IntKind.wrap .u8 z28.1 ∧ ∃ y30 : UInt8, ((⟨#[0, 1, 2, 2, 3, 3, 3, 3, 4, 4, 4, 4, 4, 4, 4, 4, 5, 5, 5, 5, 5, 5, 5, 5, 5, 5, 5, 5, 5, 5, 5, 5, 6, 6, 6, 6, 6, 6, 6, 6, 6, 6, 6, 6, 6, 6, 6, 6, 6, 6, 6, 6, 6, 6, 6, 6, 6, 6, 6, 6, 6, 6, 6, 6, 7, 7, 7, 7, 7, 7, 7, 7, 7, 7, 7, 7, 7, 7, 7, 7, 7, 7, 7, 7, 7, 7, 7, 7, 7, 7, 7, 7, 7, 7, 7, 7, 7, 7, 7, 7, 7, 7, 7, 7, 7, 7, 7, 7, 7, 7, 7, 7, 7, 7, 7, 7, 7, 7, 7, 7, 7, 7, 7, 7, 7, 7, 7, 7, 8, 8, 8, 8, 8, 8, 8, 8, 8, 8, 8, 8, 8, 8, 8, 8, 8, 8, 8, 8, 8, 8, 8, 8, 8, 8, 8, 8, 8, 8, 8, 8, 8, 8, 8, 8, 8, 8, 8, 8, 8, 8, 8, 8, 8, 8, 8, 8, 8, 8, 8, 8, 8, 8, 8, 8, 8, 8, 8, 8, 8, 8, 8, 8, 8, 8, 8, 8, 8, 8, 8, 8, 8, 8, 8, 8, 8, 8, 8, 8, 8, 8, 8, 8, 8, 8, 8, 8, 8, 8, 8, 8, 8, 8, 8, 8, 8, 8, 8, 8, 8, 8, 8, 8, 8, 8, 8, 8, 8, 8, 8, 8, 8, 8, 8, 8, 8, 8, 8, 8, 8, 8, 8, 8, 8, 8, 8, 8]⟩) : ByteArray)[((IntKind.wrap .u8 z28.1).toNat)]? = some y30 ∧ K (.int .i64 (IntKind.wrap .i64 (z28.2.1 + (IntKind.wrap .i64 ((y30.toNat : Nat) : Int))))) w29)

def math_bits_Len64.ann : Ann := (.seq .l (.cut [(0, .int .u64), (2, .int .i64)] (.seq .l (.two (.seq .l .l) .l)) (.cut [(0, .int .u64), (2, .int .i64)] (.seq .l (.two (.seq .l .l) .l)) (.cut [(0, .int .u64), (2, .int .i64)] (.seq .l (.two (.seq .l .l) .l)) (.seq .l .l)))))

theorem math_bits_Len64.vc_eq (x0 : Int) (w : World) (K : Value → World → Prop) : vcF Try.prog Try.f208 math_bits_Len64.ann [(.int .u64 x0)] K w = math_bits_Len64.vc x0 w K := by kernel_rfl

theorem math_bits_Len64.start {x0 : Int} {w : World} {K : Value → World → Prop} (h : math_bits_Len64.vc x0 w K) : Cll Try.prog 208 #[(.int .u64 x0)] w K :=
  vcF_sound mixed (fn := Try.f208) (by kernel_rfl) (by kernel_rfl) (an := math_bits_Len64.ann) (args := [(.int .u64 x0)]) (by rw [math_bits_Len64.vc_eq]; exact h)

theorem math_bits_Len64.con {x0 : Int} {r : Int} {w : World} (hp : M.math_bits_Len64_pre x0) (hr : r = M.math_bits_Len64 x0)  :
    Cll Try.prog 208 #[(.int .u64 x0)] w (fun v_ w_ => v_ = (.int .i64 r) ∧ Ext w w_) := by
  have H := wp.math_bits_Len64.math x0 hp
  have hB := Ext.refl w
  refine math_bits_Len64.start ?_
  unfold math_bits_Len64.vc
  unfold wp.math_bits_Len64 at H
  obtain ⟨K52, hKK52, H⟩ := joinP_out H
  refine ⟨fun z_ w_ => ∃ (i21 : Int) (i22 : Int), z_ = (i21, i22, ()) ∧ K52 (i21, i22, ()) ∧ Ext w w_, ?_, ?_⟩
  · refine bcase_mk (fun hc27 => ?_) (fun hc27 => ?_)
    · have H := (bcase_iff.1 H).1 hc27
      refine ⟨by decide, ?_⟩
      exact ⟨(Int.fdiv x0 (2 ^ (min ((32 : Int).toNat) (IntKind.bits .u64)))), 32, rfl, H, hB⟩
    · have H := (bcase_iff.1 H).2 hc27
      exact ⟨x0, 0, rfl, H, hB⟩
  · rintro _ w24 ⟨i21, i22, rfl, H, hB⟩
    have H := hKK52 _ H
    try dsimp only at H ⊢
    obtain ⟨K50, hKK50, H⟩ := joinP_out H
    refine ⟨fun z_ w_ => ∃ (i28 : Int) (i29 : Int), z_ = (i28, i29, ()) ∧ K50 (i28, i29, ()) ∧ Ext w w_, ?_, ?_⟩
    · refine bcase_mk (fun hc34 => ?_) (fun hc34 => ?_)
      · have H := (bcase_iff.1 H).1 hc34
        refine ⟨by decide, ?_⟩
        exact ⟨(Int.fdiv i21 (2 ^ (min ((16 : Int).toNat) (IntKind.bits .u64)))), (IntKind.wrap .i64 (i22 + 16)), rfl, H, hB⟩
      · have H := (bcase_iff.1 H).2 hc34
        exact ⟨i21, i22, rfl, H, hB⟩
    · rintro _ w31 ⟨i28, i29, rfl, H, hB⟩
      have H := hKK50 _ H
      try dsimp only at H ⊢
      obtain ⟨K48, hKK48, H⟩ := joinP_out H
      refine ⟨fun z_ w_ => ∃ (i35 : Int) (i36 : Int), z_ = (i35, i36, ()) ∧ K48 (i35, i36, ()) ∧ Ext w w_, ?_, ?_⟩
      · refine bcase_mk (fun hc41 => ?_) (fun hc41 => ?_)
        · have H := (bcase_iff.1 H).1 hc41
          refine ⟨by decide, ?_⟩
          exact ⟨(Int.fdiv i28 (2 ^ (min ((8 : Int).toNat) (IntKind.bits .u64)))), (IntKind.wrap .i64 (i29 + 8)), rfl, H, hB⟩
        · have H := (bcase_iff.1 H).2 hc41
          exact ⟨i28, i29, rfl, H, hB⟩
      · rintro _ w38 ⟨i35, i36, rfl, H, hB⟩
        have H := hKK48 _ H
        try dsimp only at H ⊢
        obtain ⟨⟨h0_45, h1_46⟩, H⟩ := H
        obtain ⟨y42, hy43, hyb44⟩ := strAt h0_45 h1_46
        refine ⟨h0_45, y42, hy43, ?_⟩
        rw [hyb44]
        obtain rfl := hr.trans H.symm
        exact ⟨rfl, hB⟩

def math_bits_Len.vc (x0 : Int) (w : World) (K : Value → World → Prop) : Prop :=
  Cll Try.prog 208 #[(.int .u64 x0)] w fun v21 w22 => (∃ (n23 : Int), v21 = (.int .i64 n23) ∧ K (.int .i64 n23) w22)

def math_bits_Len.ann : Ann := (.seq .l (.seq (.two (.seq .l .l) .l) (.seq .l .l)))

theorem math_bits_Len.vc_eq (x0 : Int) (w : World) (K : Value → World → Prop) : vcF Try.prog Try.f179 math_bits_Len.ann [(.int .u64 x0)] K w = math_bits_Len.vc x0 w K := by kernel_rfl

theorem math_bits_Len.start {x0 : Int} {w : World} {K : Value → World → Prop} (h : math_bits_Len.vc x0 w K) : Cll Try.prog 179 #[(.int .u64 x0)] w K :=
  vcF_sound mixed (fn := Try.f179) (by kernel_rfl) (by kernel_rfl) (an := math_bits_Len.ann) (args := [(.int .u64 x0)]) (by rw [math_bits_Len.vc_eq]; exact h)

theorem math_bits_Len.con {x0 : Int} {r : Int} {w : World} (hp : M.math_bits_Len_pre x0) (hr : r = M.math_bits_Len x0)  :
    Cll Try.prog 179 #[(.int .u64 x0)] w (fun v_ w_ => v_ = (.int .i64 r) ∧ Ext w w_) := by
  have H := wp.math_bits_Len.math x0 hp
  have hB := Ext.refl w
  refine math_bits_Len.start ?_
  unfold math_bits_Len.vc
  unfold wp.math_bits_Len at H
  obtain ⟨hp23, H⟩ := H
  obtain ⟨r21, hr22⟩ : ∃ r_, r_ = M.math_bits_Len64 x0 := ⟨_, rfl⟩
  have H := H r21 hr22
  refine (math_bits_Len64.con hp23 hr22 ).mono ?_
  rintro _ w24 ⟨rfl, e25⟩
  have hB := ethen hB e25
  refine ⟨r21, rfl, ?_⟩
  obtain rfl := hr.trans H.symm
  exact ⟨rfl, hB⟩

def slices_pdqsortOrdered_int.vc (A0 : Option Addr) (n0 : Nat) (c0 : Nat) (x1 : Int) (x2 : Int) (x3 : Int) (w : World) (K : Value → World → Prop) : Prop :=
  LoopT (σ := Int × Int × Int × Bool × Bool × Unit) (fun z21 w22 next23 => bcase (decide ((IntKind.wrap .i64 (z21.2.1 - z21.1)) ≤ 12)) (Cll Try.prog 198 #[(.slice A0 n0 c0), (.int .i64 z21.1), (.int .i64 z21.2.1)] w22 fun v24 w25 => (v24 = (.tuple #[]) ∧ K (.tuple #[]) w25)) (bcase (z21.2.2.1 == 0) (Cll Try.prog 199 #[(.slice A0 n0 c0), (.int .i64 z21.1), (.int .i64 z21.2.1)] w22 fun v26 w27 => (v26 = (.tuple #[]) ∧ K (.tuple #[]) w27)) (JoinT (σ := Int × Unit) (fun J28 => bcase (!z21.2.2.2.1) (Cll Try.prog 200 #[(.slice A0 n0 c0), (.int .i64 z21.1), (.int .i64 z21.2.1)] w22 fun v29 w30 => (v29 = (.tuple #[]) ∧ J28 ((IntKind.wrap .i64 (z21.2.2.1 - 1)), ()) w30)) (J28 (z21.2.2.1, ()) w22)) fun z31 w32 => Cll Try.prog 201 #[(.slice A0 n0 c0), (.int .i64 z21.1), (.int .i64 z21.2.1)] w32 fun v33 w34 => (∃ u35 : Value, (∃ (n36 : Int), u35 = (.int .i64 n36) ∧ ∃ u37 : Value, (∃ (n38 : Int), u37 = (.int .i64 n38) ∧ v33 = (.tuple #[(.int .i64 n36), (.int .i64 n38)]) ∧ JoinT (σ := Int × Int × Unit) (fun J39 => bcase (n38 == 2) (Cll Try.prog 202 #[(.slice A0 n0 c0), (.int .i64 z21.1), (.int .i64 z21.2.1)] w34 fun v40 w41 => (v40 = (.tuple #[]) ∧ J39 ((IntKind.wrap .i64 ((IntKind.wrap .i64 (z21.2.1 - 1)) - (IntKind.wrap .i64 (n36 - z21.1)))), 1, ()) w41)) (J39 (n36, n38, ()) w34)) fun z42 w43 => JoinT (σ := Unit) (fun J44 => bcase z21.2.2.2.1 (bcase z21.2.2.2.2.1 (bcase (z42.2.1 == 1) (Cll Try.prog 203 #[(.slice A0 n0 c0), (.int .i64 z21.1), (.int .i64 z21.2.1)] w43 fun v45 w46 => (∃ (b47 : Bool), v45 = (.bool b47) ∧ bcase b47 (K (.tuple #[]) w46) (J44 () w46))) (J44 () w43)) (J44 () w43)) (J44 () w43)) fun z48 w49 => JoinT (σ := Bool × Unit) (fun J51 => (∃ M52 : Nat → Prop, bcase (decide (z21.1 > 0)) (((0 : Int) ≤ (IntKind.wrap .i64 (z21.1 - 1)) ∧ (IntKind.wrap .i64 (z21.1 - 1)) < ((n0 : Nat) : Int) ∧ ∃ a53 : Addr, A0 = some a53 ∧ ∃ (n54 : Int), (¬ M52 ((a53.add (((IntKind.wrap .i64 (z21.1 - 1)).toNat) * 1))).block ∧ w49.cell? ((a53.add (((IntKind.wrap .i64 (z21.1 - 1)).toNat) * 1)).add 0) = some (.int .i64 n54)) ∧ ((0 : Int) ≤ z42.1 ∧ z42.1 < ((n0 : Nat) : Int) ∧ ∃ a55 : Addr, A0 = some a55 ∧ ∃ (n56 : Int), (¬ M52 ((a55.add ((z42.1.toNat) * 1))).block ∧ w49.cell? ((a55.add ((z42.1.toNat) * 1)).add 0) = some (.int .i64 n56)) ∧ Cll Try.prog 204 #[(.int .i64 n54), (.int .i64 n56)] w49.drew fun v57 w58 => (∃ (b59 : Bool), v57 = (.bool b59) ∧ SameBut M52 w49 w58 ∧ J51 ((!b59), ()) w58)))) (J51 (false, ()) w49.drew))) fun z60 w61 => bcase z60.1 (Cll Try.prog 205 #[(.slice A0 n0 c0), (.int .i64 z21.1), (.int .i64 z21.2.1), (.int .i64 z42.1)] w61 fun v62 w63 => (∃ (n64 : Int), v62 = (.int .i64 n64) ∧ next23 (n64, z21.2.1, z31.1, z21.2.2.2.1, z21.2.2.2.2.1, ()) w63)) (Cll Try.prog 206 #[(.slice A0 n0 c0), (.int .i64 z21.1), (.int .i64 z21.2.1), (.int .i64 z42.1)] w61 fun v65 w66 => (∃ u67 : Value, (∃ (n68 : Int), u67 = (.int .i64 n68) ∧ ∃ u69 : Value, (∃ (b70 : Bool), u69 = (.bool b70) ∧ v65 = (.tuple #[(.int .i64 n68), (.bool b70)]) ∧ ((8 : Int) ≠ 0 ∧ bcase (decide ((IntKind.wrap .i64 (n68 - z21.1)) < (IntKind.wrap .i64 (z21.2.1 - n68)))) (Cll Try.prog 178 #[(.slice A0 n0 c0), (.int .i64 z21.1), (.int .i64 n68), (.int .i64 z31.1)] w66 fun v71 w72 => (v71 = (.tuple #[]) ∧ next23 ((IntKind.wrap .i64 (n68 + 1)), z21.2.1, z31.1, (decide ((IntKind.wrap .i64 (n68 - z21.1)) ≥ (IntKind.wrap .i64 (Int.tdiv (IntKind.wrap .i64 (z21.2.1 - z21.1)) 8)))), b70, ()) w72)) (Cll Try.prog 178 #[(.slice A0 n0 c0), (.int .i64 (IntKind.wrap .i64 (n68 + 1))), (.int .i64 z21.2.1), (.int .i64 z31.1)] w66 fun v73 w74 => (v73 = (.tuple #[]) ∧ next23 (z21.1, n68, z31.1, (decide ((IntKind.wrap .i64 (z21.2.1 - n68)) ≥ (IntKind.wrap .i64 (Int.tdiv (IntKind.wrap .i64 (z21.2.1 - z21.1)) 8)))), b70, ()) w74))))))))))))) (x1, x2, x3, true, true, ()) w

def slices_pdqsortOrdered_int.ann : Ann := (.seq .l (.seq .l (.one (.loop [(1, .int .i64), (2, .int .i64), (3, .int .i64), (8, .bool), (9, .bool)] (.one (.seq .l (.seq (.seq .l (.two (.seq .l .l) .l)) (.seq (.seq .l (.two (.seq .l .l) .l)) (.cut [(3, .int .i64)] (.seq .l (.two (.seq .l .l) .l)) (.seq .l (.cut [(11, .int .i64), (12, .int .i64)] (.seq .l (.two (.seq .l (.seq .l .l)) .l)) (.cut [] (.seq .l (.two (.seq .l (.two .l .l)) .l)) (.seq (.cut [(87, .bool)] .l (.two (.seq .l (.seq .l .l)) .l)) (.seq .l (.seq .l (.seq .l (.seq .l (.seq .l (.two (.seq .l (.seq .l .l)) (.seq .l (.seq .l .l)))))))))))))))))))))

theorem slices_pdqsortOrdered_int.vc_eq (A0 : Option Addr) (n0 : Nat) (c0 : Nat) (x1 : Int) (x2 : Int) (x3 : Int) (w : World) (K : Value → World → Prop) : vcF Try.prog Try.f178 slices_pdqsortOrdered_int.ann [(.slice A0 n0 c0), (.int .i64 x1), (.int .i64 x2), (.int .i64 x3)] K w = slices_pdqsortOrdered_int.vc A0 n0 c0 x1 x2 x3 w K := by kernel_rfl

theorem slices_pdqsortOrdered_int.start {A0 : Option Addr} {n0 : Nat} {c0 : Nat} {x1 : Int} {x2 : Int} {x3 : Int} {w : World} {K : Value → World → Prop} (h : slices_pdqsortOrdered_int.vc A0 n0 c0 x1 x2 x3 w K) : Cll Try.prog 178 #[(.slice A0 n0 c0), (.int .i64 x1), (.int .i64 x2), (.int .i64 x3)] w K :=
  vcF_sound mixed (fn := Try.f178) (by kernel_rfl) (by kernel_rfl) (an := slices_pdqsortOrdered_int.ann) (args := [(.slice A0 n0 c0), (.int .i64 x1), (.int .i64 x2), (.int .i64 x3)]) (by rw [slices_pdqsortOrdered_int.vc_eq]; exact h)

theorem slices_pdqsortOrdered_int.con {xs0 : List Int} {A0 : Option Addr} {c0 : Nat} {x1 : Int} {x2 : Int} {x3 : Int} {r : (List Int)} {w : World} (hp : M.slices_pdqsortOrdered_int_pre xs0 x1 x2 x3) (hr : r = M.slices_pdqsortOrdered_int xs0 x1 x2 x3) (O1 : Own el3 w 0 A0 c0 xs0) :
    Cll Try.prog 178 #[(.slice A0 xs0.length c0), (.int .i64 x1), (.int .i64 x2), (.int .i64 x3)] w (fun v_ w_ => v_ = (.tuple #[]) ∧ Own el3 w_ 0 A0 c0 r ∧ r.length = xs0.length ∧ Chg (InB A0) w w_) := by
  have H := wp.slices_pdqsortOrdered_int.math xs0 x1 x2 x3 hp
  have hB := Chg.refl (InB A0) w
  refine slices_pdqsortOrdered_int.start ?_
  unfold slices_pdqsortOrdered_int.vc
  unfold wp.slices_pdqsortOrdered_int at H
  obtain ⟨J27, ⟨m46, hJ45⟩, hS28⟩ := H
  refine ⟨fun m_ z_ w_ => ∃ (i21 : Int) (i22 : Int) (i23 : Int) (b24 : Bool) (b25 : Bool), z_ = (i21, i22, i23, b24, b25, ()) ∧ J27 m_ (i21, i22, i23, b24, b25, ()) ∧ Chg (InB A0) w w_ ∧ Own el3 w_ 0 A0 c0 xs0, ⟨m46, x1, x2, x3, true, true, rfl, hJ45, hB, O1⟩, ?_⟩
  rintro m26 _ w30 ⟨i21, i22, i23, b24, b25, rfl, hJ47, hB, O1⟩
  have H := hS28 m26 _ hJ47
  clear hS28 hJ47
  try dsimp only at H ⊢
  refine bcase_mk (fun hc43 => ?_) (fun hc43 => ?_)
  · have H := (bcase_iff.1 H).1 hc43
    obtain ⟨hp33, H⟩ := H
    obtain ⟨r31, hr32⟩ : ∃ r_, r_ = M.slices_insertionSortOrdered_int xs0 i21 i22 := ⟨_, rfl⟩
    have H := H r31 hr32
    refine (slices_insertionSortOrdered_int.con hp33 hr32 (O1.mono (Nat.zero_le _))).mono ?_
    rintro _ w34 ⟨rfl, Q1, hl36, e35⟩
    have hB := hB.chg e35 (fun g h_ => Or.inr h_)
    have O1 := Q1
    refine ⟨rfl, ?_⟩
    obtain rfl := hr.trans H.symm
    exact ⟨rfl, O1, (by first | (simp only [List.length_set]; done) | (simp only [List.length_set, hl36]; done) | (simp; done) | (simp; omega) | omega), hB⟩
  · have H := (bcase_iff.1 H).2 hc43
    refine bcase_mk (fun hc42 => ?_) (fun hc42 => ?_)
    · have H := (bcase_iff.1 H).1 hc42
      exact H.elim
    · have H := (bcase_iff.1 H).2 hc42
      exact H.elim

def slices_Sort_int_int.vc (A0 : Option Addr) (n0 : Nat) (c0 : Nat) (w : World) (K : Value → World → Prop) : Prop :=
  Cll Try.prog 179 #[(.int .u64 (IntKind.wrap .u64 ((n0 : Nat) : Int)))] w fun v21 w22 => (∃ (n23 : Int), v21 = (.int .i64 n23) ∧ Cll Try.prog 178 #[(.slice A0 n0 c0), (.int .i64 0), (.int .i64 ((n0 : Nat) : Int)), (.int .i64 n23)] w22 fun v24 w25 => (v24 = (.tuple #[]) ∧ K (.tuple #[]) w25))

def slices_Sort_int_int.ann : Ann := (.seq .l .l)

theorem slices_Sort_int_int.vc_eq (A0 : Option Addr) (n0 : Nat) (c0 : Nat) (w : World) (K : Value → World → Prop) : vcF Try.prog Try.f143 slices_Sort_int_int.ann [(.slice A0 n0 c0)] K w = slices_Sort_int_int.vc A0 n0 c0 w K := by kernel_rfl

theorem slices_Sort_int_int.start {A0 : Option Addr} {n0 : Nat} {c0 : Nat} {w : World} {K : Value → World → Prop} (h : slices_Sort_int_int.vc A0 n0 c0 w K) : Cll Try.prog 143 #[(.slice A0 n0 c0)] w K :=
  vcF_sound mixed (fn := Try.f143) (by kernel_rfl) (by kernel_rfl) (an := slices_Sort_int_int.ann) (args := [(.slice A0 n0 c0)]) (by rw [slices_Sort_int_int.vc_eq]; exact h)

theorem slices_Sort_int_int.con {xs0 : List Int} {A0 : Option Addr} {c0 : Nat} {r : (List Int)} {w : World} (hp : M.slices_Sort_int_int_pre xs0) (hr : r = M.slices_Sort_int_int xs0) (O1 : Own el3 w 0 A0 c0 xs0) :
    Cll Try.prog 143 #[(.slice A0 xs0.length c0)] w (fun v_ w_ => v_ = (.tuple #[]) ∧ Own el3 w_ 0 A0 c0 r ∧ r.length = xs0.length ∧ Chg (InB A0) w w_) := by
  have H := wp.slices_Sort_int_int.math xs0 hp
  have hB := Chg.refl (InB A0) w
  refine slices_Sort_int_int.start ?_
  unfold slices_Sort_int_int.vc
  unfold wp.slices_Sort_int_int at H
  obtain ⟨hp23, H⟩ := H
  obtain ⟨r21, hr22⟩ : ∃ r_, r_ = M.math_bits_Len (IntKind.wrap .u64 ((xs0.length : Nat) : Int)) := ⟨_, rfl⟩
  have H := H r21 hr22
  refine (math_bits_Len.con hp23 hr22 ).mono ?_
  rintro _ w24 ⟨rfl, e25⟩
  have O1 := O1.ext e25
  have hB := hB.then e25
  refine ⟨r21, rfl, ?_⟩
  obtain ⟨hp28, H⟩ := H
  obtain ⟨r26, hr27⟩ : ∃ r_, r_ = M.slices_pdqsortOrdered_int xs0 0 ((xs0.length : Nat) : Int) r21 := ⟨_, rfl⟩
  have H := H r26 hr27
  refine (slices_pdqsortOrdered_int.con hp28 hr27 (O1.mono (Nat.zero_le _))).mono ?_
  rintro _ w29 ⟨rfl, Q1, hl31, e30⟩
  have hB := hB.chg e30 (fun g h_ => Or.inr h_)
  have O1 := Q1
  refine ⟨rfl, ?_⟩
  obtain rfl := hr.trans H.symm
  exact ⟨rfl, O1, (by first | (simp only [List.length_set]; done) | (simp only [List.length_set, hl31]; done) | (simp; done) | (simp; omega) | omega), hB⟩

def slices_Compact_int_int.vc (A0 : Option Addr) (n0 : Nat) (c0 : Nat) (w : World) (K : Value → World → Prop) : Prop :=
  bcase (decide (((n0 : Nat) : Int) < 2)) (K (.slice A0 n0 c0) w) (LoopT (σ := Int × Unit) (fun z21 w22 next23 => bcase (decide (z21.1 < ((n0 : Nat) : Int))) (((0 : Int) ≤ z21.1 ∧ z21.1 < ((n0 : Nat) : Int) ∧ ∃ a24 : Addr, A0 = some a24 ∧ ∃ (n25 : Int), w22.cell? ((a24.add ((z21.1.toNat) * 1)).add 0) = some (.int .i64 n25) ∧ ((0 : Int) ≤ (IntKind.wrap .i64 (z21.1 - 1)) ∧ (IntKind.wrap .i64 (z21.1 - 1)) < ((n0 : Nat) : Int) ∧ ∃ a26 : Addr, A0 = some a26 ∧ ∃ (n27 : Int), w22.cell? ((a26.add (((IntKind.wrap .i64 (z21.1 - 1)).toNat) * 1)).add 0) = some (.int .i64 n27) ∧ bcase (n25 == n27) (((0 : Int) ≤ z21.1 ∧ z21.1 ≤ ((n0 : Nat) : Int) ∧ LoopT (σ := Int × Int × Unit) (fun z28 w29 next30 => bcase (decide (z28.2.1 < (((n0 - (z21.1.toNat)) : Nat) : Int))) (((0 : Int) ≤ z28.2.1 ∧ z28.2.1 < (((n0 - (z21.1.toNat)) : Nat) : Int) ∧ ∃ a31 : Addr, (if c0 = (z21.1.toNat) then A0 else A0.map (·.add ((z21.1.toNat) * szOf Try.prog 3))) = some a31 ∧ ∃ (n32 : Int), w29.cell? ((a31.add ((z28.2.1.toNat) * 1)).add 0) = some (.int .i64 n32) ∧ ((0 : Int) ≤ (IntKind.wrap .i64 (z28.2.1 - 1)) ∧ (IntKind.wrap .i64 (z28.2.1 - 1)) < (((n0 - (z21.1.toNat)) : Nat) : Int) ∧ ∃ a33 : Addr, (if c0 = (z21.1.toNat) then A0 else A0.map (·.add ((z21.1.toNat) * szOf Try.prog 3))) = some a33 ∧ ∃ (n34 : Int), w29.cell? ((a33.add (((IntKind.wrap .i64 (z28.2.1 - 1)).toNat) * 1)).add 0) = some (.int .i64 n34) ∧ bcase (n32 != n34) (((0 : Int) ≤ z28.2.1 ∧ z28.2.1 < (((n0 - (z21.1.toNat)) : Nat) : Int) ∧ ∃ a35 : Addr, (if c0 = (z21.1.toNat) then A0 else A0.map (·.add ((z21.1.toNat) * szOf Try.prog 3))) = some a35 ∧ ∃ (n36 : Int), w29.drew.cell? ((a35.add ((z28.2.1.toNat) * 1)).add 0) = some (.int .i64 n36) ∧ ((0 : Int) ≤ z28.1 ∧ z28.1 < ((n0 : Nat) : Int) ∧ ∃ a37 : Addr, A0 = some a37 ∧ stCells (a37.add ((z28.1.toNat) * 1)) [(.int .i64 n36)] 0 w29.drew fun w38 => next30 ((IntKind.wrap .i64 (z28.1 + 1)), (IntKind.wrap .i64 (z28.2.1 + 1)), ()) w38))) (next30 (z28.1, (IntKind.wrap .i64 (z28.2.1 + 1)), ()) w29.drew)))) (((0 : Int) ≤ z28.1 ∧ z28.1 ≤ ((n0 : Nat) : Int) ∧ Run Try.prog (Builtin.clear_ #[24] 0 #[(.slice (if c0 = (z28.1.toNat) then A0 else A0.map (·.add ((z28.1.toNat) * szOf Try.prog 3))) (n0 - (z28.1.toNat)) (c0 - (z28.1.toNat)))]) w29 fun v39 w40 => v39 = .tuple #[] ∧ ((0 : Int) ≤ z28.1 ∧ z28.1 ≤ ((c0 : Nat) : Int) ∧ K (.slice A0 (z28.1.toNat) c0) w40)))) (z21.1, 1, ()) w22.drew)) (next23 ((IntKind.wrap .i64 (z21.1 + 1)), ()) w22.drew)))) (K (.slice A0 n0 c0) w22)) (1, ()) w)

def slices_Compact_int_int.ann : Ann := (.seq .l (.seq (.seq .l (.two (.seq .l .l) .l)) (.seq (.seq .l (.one (.loop [(3, .int .i64)] (.seq (.seq .l (.two .l .l)) (.seq (.one (.seq .l (.two (.seq .l (.seq (.seq .l (.one (.loop [(3, .int .i64), (5, .int .i64)] (.seq (.seq .l (.two .l .l)) (.seq (.one (.seq .l (.two (.seq .l .l) .l))) .l))))) (.seq .l (.seq .l .l)))) .l))) .l))))) (.seq .l .l))))

theorem slices_Compact_int_int.vc_eq (A0 : Option Addr) (n0 : Nat) (c0 : Nat) (w : World) (K : Value → World → Prop) : vcF Try.prog Try.f144 slices_Compact_int_int.ann [(.slice A0 n0 c0)] K w = slices_Compact_int_int.vc A0 n0 c0 w K := by kernel_rfl

theorem slices_Compact_int_int.start {A0 : Option Addr} {n0 : Nat} {c0 : Nat} {w : World} {K : Value → World → Prop} (h : slices_Compact_int_int.vc A0 n0 c0 w K) : Cll Try.prog 144 #[(.slice A0 n0 c0)] w K :=
  vcF_sound mixed (fn := Try.f144) (by kernel_rfl) (by kernel_rfl) (an := slices_Compact_int_int.ann) (args := [(.slice A0 n0 c0)]) (by rw [slices_Compact_int_int.vc_eq]; exact h)

theorem slices_Compact_int_int.con {xs0 : List Int} {A0 : Option Addr} {c0 : Nat} {r : List Int} {w : World} (hp : M.slices_Compact_int_int_pre xs0) (hr : r = M.slices_Compact_int_int xs0) (O1 : Own el3 w 0 A0 c0 xs0) :
    Cll Try.prog 144 #[(.slice A0 xs0.length c0)] w (fun v_ w_ => ∃ (A0_ : Option Addr) (c0_ : Nat), v_ = (.slice A0_ r.length c0_) ∧ Own el3 w_ 0 A0_ c0_ r ∧ Mov w A0 A0_ ∧ Chg (InB A0) w w_) := by
  have H := wp.slices_Compact_int_int.math xs0 hp
  have hB := Chg.refl (InB A0) w
  refine slices_Compact_int_int.start ?_
  unfold slices_Compact_int_int.vc
  unfold wp.slices_Compact_int_int at H
  refine bcase_mk (fun hc68 => ?_) (fun hc68 => ?_)
  · have H := (bcase_iff.1 H).1 hc68
    obtain rfl := hr.trans H.symm
    exact ⟨A0, c0, rfl, (O1.mono (Nat.zero_le _)), (Mov.same _ _), hB⟩
  · have H := (bcase_iff.1 H).2 hc68
    obtain ⟨J23, ⟨m66, hJ65⟩, hS24⟩ := H
    refine ⟨fun m_ z_ w_ => ∃ (i21 : Int), z_ = (i21, ()) ∧ J23 m_ (i21, ()) ∧ Chg (InB A0) w w_ ∧ Own el3 w_ 0 A0 c0 xs0, ⟨m66, 1, rfl, hJ65, hB, O1⟩, ?_⟩
    rintro m22 _ w26 ⟨i21, rfl, hJ67, hB, O1⟩
    have H := hS24 m22 _ hJ67
    clear hS24 hJ67
    try dsimp only at H ⊢
    refine bcase_mk (fun hc63 => ?_) (fun hc63 => ?_)
    · have H := (bcase_iff.1 H).1 hc63
      obtain ⟨⟨h0_31, h1_32⟩, H⟩ := H
      obtain ⟨a29, ha30, hat28⟩ := Row.at O1.row h0_31 h1_32
      refine ⟨h0_31, h1_32, a29, ha30, ?_⟩
      refine ⟨_, (hat28 0 _ rfl), ?_⟩
      obtain ⟨⟨h0_36, h1_37⟩, H⟩ := H
      obtain ⟨a34, ha35, hat33⟩ := Row.at O1.row h0_36 h1_37
      refine ⟨h0_36, h1_37, a34, ha35, ?_⟩
      refine ⟨_, (hat33 0 _ rfl), ?_⟩
      have O1 := O1.ext (Ext.drew _)
      have hB := hB.then (Ext.drew _)
      refine bcase_mk (fun hc62 => ?_) (fun hc62 => ?_)
      · have H := (bcase_iff.1 H).1 hc62
        obtain ⟨⟨hl38, hl39⟩, H⟩ := H
        refine and_assoc.1 ⟨⟨hl38, hl39⟩, ?_⟩
        rw [show (xs0.length - (i21.toNat)) = ((List.drop (i21.toNat) xs0)).length from by first | rfl | (simp; done) | (simp; omega)]
        have O2 := (O1.drop (l := (i21.toNat)) (by first | omega | (simp; done) | (simp; omega)))
        obtain ⟨J43, ⟨m57, hJ56⟩, hS44⟩ := H
        refine ⟨fun m_ z_ w_ => ∃ (i40 : Int) (i41 : Int), z_ = (i40, i41, ()) ∧ J43 m_ (i40, i41, ()) ∧ Chg (InB A0) w w_ ∧ Own el3 w_ 0 A0 c0 xs0, ⟨m57, i21, 1, rfl, hJ56, hB, O1⟩, ?_⟩
        rintro m42 _ w46 ⟨i40, i41, rfl, hJ58, hB, O1⟩
        have H := hS44 m42 _ hJ58
        clear hS44 hJ58
        try dsimp only at H ⊢
        refine bcase_mk (fun hc54 => ?_) (fun hc54 => ?_)
        · have H := (bcase_iff.1 H).1 hc54
          exact H.elim
        · have H := (bcase_iff.1 H).2 hc54
          obtain ⟨⟨hl48, hl49⟩, H⟩ := H
          refine and_assoc.1 ⟨⟨hl48, hl49⟩, ?_⟩
          rw [show (xs0.length - (i40.toNat)) = ((List.drop (i40.toNat) xs0)).length from by first | rfl | (simp; done) | (simp; omega)]
          have O3 := (O1.drop (l := (i40.toNat)) (by first | omega | (simp; done) | (simp; omega)))
          refine clearCut slt24 O1 (l := (i40.toNat)) (by first | omega | (simp; omega)) (by first | rfl | (simp; done) | (simp; omega)) (fun w50 P1 e51 => ?_)
          have hB := hB.app e51 (fun g h_ => Or.inr h_)
          have O1 := P1
          obtain ⟨⟨hh52, hh53⟩, H⟩ := H
          refine and_assoc.1 ⟨⟨hh52, Int.le_trans hh53 (Int.ofNat_le.2 O1.le)⟩, ?_⟩
          rw [show (i40.toNat) = ((List.take (i40.toNat) (List.take (i40.toNat) xs0 ++ List.replicate (xs0.length - (i40.toNat)) default))).length from by first | rfl | (simp; done) | (simp; omega)]
          have O4 := (O1.take (i40.toNat))
          obtain rfl := hr.trans H.symm
          exact ⟨A0, c0, rfl, (O4.mono (Nat.zero_le _)), (Mov.same _ _), hB⟩
      · have H := (bcase_iff.1 H).2 hc62
        obtain ⟨m59, hm60, hJ61⟩ := H
        exact ⟨m59, hm60, (IntKind.wrap .i64 (i21 + 1)), rfl, hJ61, hB, O1⟩
    · have H := (bcase_iff.1 H).2 hc63
      obtain rfl := hr.trans H.symm
      exact ⟨A0, c0, rfl, (O1.mono (Nat.zero_le _)), (Mov.same _ _), hB⟩

def impl_next.vc (A0 : Option Addr) (n0 : Nat) (c0 : Nat) (x1 : Int) (w : World) (K : Value → World → Prop) : Prop :=
  bcase (x1 == ((n0 : Nat) : Int)) (Run Try.prog (Instr.buildSlice 24 0 #[]) w fun v21 w22 => ∃ (A23 : Option Addr) (n24 c25 : Nat), v21 = .slice A23 n24 c25 ∧ K (.slice A23 n24 c25) w22) (((0 : Int) ≤ x1 ∧ x1 < ((n0 : Nat) : Int) ∧ ∃ a26 : Addr, A0 = some a26 ∧ ∃ (n27 : Int), w.cell? ((a26.add ((x1.toNat) * 4)).add 0) = some (.int .i64 n27) ∧ ∃ (n28 : Int), w.cell? ((a26.add ((x1.toNat) * 4)).add 1) = some (.int .i64 n28) ∧ ∃ (n29 : Int), w.cell? ((a26.add ((x1.toNat) * 4)).add 2) = some (.int .i64 n29) ∧ ∃ (n30 : Int), w.cell? ((a26.add ((x1.toNat) * 4)).add 3) = some (.int .i64 n30) ∧ newK w (.cells #[(.int .i64 0), (.int .i64 0), (.int .i64 0), (.int .i64 0)] 76) fun g31 w32 => stCells (⟨g31, 0, none⟩ : Addr) [(.int .i64 n27), (.int .i64 n28), (.int .i64 n29), (.int .i64 n30)] 0 w32 fun w33 => ∃ (n34 : Int), w33.cell? (((⟨g31, 0, none⟩ : Addr).add 0).add 0) = some (.int .i64 n34) ∧ bcase (n34 == 12) (Run Try.prog (Instr.buildSlice 24 1 #[(0, (.int .i64 ((n0 : Nat) : Int)))]) w33 fun v35 w36 => ∃ (A37 : Option Addr) (n38 c39 : Nat), v35 = .slice A37 n38 c39 ∧ K (.slice A37 n38 c39) w36) (bcase (n34 == 11) (∃ (n40 : Int), w33.cell? (((⟨g31, 0, none⟩ : Addr).add 2).add 0) = some (.int .i64 n40) ∧ Run Try.prog (Instr.buildSlice 24 1 #[(0, (.int .i64 n40))]) w33 fun v41 w42 => ∃ (A43 : Option Addr) (n44 c45 : Nat), v41 = .slice A43 n44 c45 ∧ K (.slice A43 n44 c45) w42) (bcase (n34 == 10) (∃ (n46 : Int), w33.cell? (((⟨g31, 0, none⟩ : Addr).add 2).add 0) = some (.int .i64 n46) ∧ Run Try.prog (Instr.buildSlice 24 2 #[(0, (.int .i64 n46)), (1, (.int .i64 (IntKind.wrap .i64 (x1 + 1))))]) w33 fun v47 w48 => ∃ (A49 : Option Addr) (n50 c51 : Nat), v47 = .slice A49 n50 c51 ∧ Cll Try.prog 143 #[(.slice A49 n50 c51)] w48 fun v52 w53 => (v52 = (.tuple #[]) ∧ Cll Try.prog 144 #[(.slice A49 n50 c51)] w53 fun v54 w55 => (∃ (A56 : Option Addr) (n57 : Nat) (c58 : Nat), v54 = (.slice A56 n57 c58) ∧ K (.slice A56 n57 c58) w55))) (Run Try.prog (Instr.buildSlice 24 1 #[(0, (.int .i64 (IntKind.wrap .i64 (x1 + 1))))]) w33 fun v59 w60 => ∃ (A61 : Option Addr) (n62 c63 : Nat), v59 = .slice A61 n62 c63 ∧ K (.slice A61 n62 c63) w60)))))

def impl_next.ann : Ann := (.seq .l (.seq (.seq .l (.two (.seq .l .l) .l)) (.seq (.seq .l (.seq .l (.one (.seq .l (.two (.seq .l .l) (.seq .l (.two (.seq .l .l) (.seq .l (.two (.seq .l (.seq .l (.seq .l .l))) .l))))))))) (.seq .l .l))))

theorem impl_next.vc_eq (A0 : Option Addr) (n0 : Nat) (c0 : Nat) (x1 : Int) (w : World) (K : Value → World → Prop) : vcF Try.prog Try.f91 impl_next.ann [(.slice A0 n0 c0), (.int .i64 x1)] K w = impl_next.vc A0 n0 c0 x1 w K := by kernel_rfl

theorem impl_next.start {A0 : Option Addr} {n0 : Nat} {c0 : Nat} {x1 : Int} {w : World} {K : Value → World → Prop} (h : impl_next.vc A0 n0 c0 x1 w K) : Cll Try.prog 91 #[(.slice A0 n0 c0), (.int .i64 x1)] w K :=
  vcF_sound mixed (fn := Try.f91) (by kernel_rfl) (by kernel_rfl) (an := impl_next.ann) (args := [(.slice A0 n0 c0), (.int .i64 x1)]) (by rw [impl_next.vc_eq]; exact h)

theorem impl_next.con {xs0 : List D.Ins} {A0 : Option Addr} {c0 : Nat} {x1 : Int} {r : List Int} {w : World} (hp : M.impl_next_pre xs0 x1) (hr : r = M.impl_next xs0 x1) (R0 : Row el76 w A0 xs0) (hc0 : xs0.length ≤ c0) :
    Cll Try.prog 91 #[(.slice A0 xs0.length c0), (.int .i64 x1)] w (fun v_ w_ => ∃ (A0_ : Option Addr) (c0_ : Nat), v_ = (.slice A0_ r.length c0_) ∧ Own el3 w_ w.heap.size A0_ c0_ r ∧ Ext w w_) := by
  have H := wp.impl_next.math xs0 x1 hp
  have hB := Ext.refl w
  refine impl_next.start ?_
  unfold impl_next.vc
  unfold wp.impl_next at H
  refine bcase_mk (fun hc61 => ?_) (fun hc61 => ?_)
  · have H := (bcase_iff.1 H).1 hc61
    refine buildOwn el3 ([] : List Int) (fun _ => by kernel_rfl) rfl (fun A21 w22 P2 e23 => ?_)
    have O2 := P2.mono hB.size
    have hB := ethen hB e23
    obtain rfl := hr.trans H.symm
    exact ⟨A21, 0, (by first | rfl | (simp; done) | (simp; omega) | (simp [*]; done)), (by first | exact O2 | (simp only [List.length_set]; exact O2)), hB⟩
  · have H := (bcase_iff.1 H).2 hc61
    obtain ⟨⟨h0_27, h1_28⟩, H⟩ := H
    obtain ⟨a25, ha26, hat24⟩ := Row.at (R0.ext hB) h0_27 h1_28
    refine ⟨h0_27, h1_28, a25, ha26, ?_⟩
    refine ⟨_, (hat24 0 _ rfl), ?_⟩
    refine ⟨_, (hat24 1 _ rfl), ?_⟩
    refine ⟨_, (hat24 2 _ rfl), ?_⟩
    refine ⟨_, (hat24 3 _ rfl), ?_⟩
    refine newBlk (fun g3_ w29 L3 P3 e30 => ?_)
    have O3 := P3
    have L3 := Nat.le_trans hB.size L3
    have hB := ethen hB e30
    refine stBlk O3 (o := 0) (cs' := #[(.int .i64 ((rd xs0 x1).Op)), (.int .i64 ((rd xs0 x1).A)), (.int .i64 ((rd xs0 x1).B)), (.int .i64 ((rd xs0 x1).C))]) rfl rfl (Nat.le_of_ble_eq_true rfl) rfl (fun w31 P3 e32 => ?_)
    have hB := echg hB e32 L3
    have O3 := P3
    refine ⟨_, (O3.at 0 rfl rfl), ?_⟩
    refine bcase_mk (fun hc60 => ?_) (fun hc60 => ?_)
    · have H := (bcase_iff.1 H).1 hc60
      refine buildOwn el3 ([((xs0.length : Nat) : Int)] : List Int) (fun _ => by kernel_rfl) rfl (fun A33 w34 P4 e35 => ?_)
      have N4_3 := P4.apart_old O3.lt
      have O3 := O3.ext e35
      have O4 := P4.mono hB.size
      have hB := ethen hB e35
      obtain rfl := hr.trans H.symm
      exact ⟨A33, 1, (by first | rfl | (simp; done) | (simp; omega) | (simp [*]; done)), (by first | exact O4 | (simp only [List.length_set]; exact O4)), hB⟩
    · have H := (bcase_iff.1 H).2 hc60
      refine bcase_mk (fun hc59 => ?_) (fun hc59 => ?_)
      · have H := (bcase_iff.1 H).1 hc59
        refine ⟨_, (O3.at 2 rfl rfl), ?_⟩
        refine buildOwn el3 ([(rd xs0 x1).B] : List Int) (fun _ => by kernel_rfl) rfl (fun A36 w37 P5 e38 => ?_)
        have N5_3 := P5.apart_old O3.lt
        have O3 := O3.ext e38
        have O5 := P5.mono hB.size
        have hB := ethen hB e38
        obtain rfl := hr.trans H.symm
        exact ⟨A36, 1, (by first | rfl | (simp; done) | (simp; omega) | (simp [*]; done)), (by first | exact O5 | (simp only [List.length_set]; exact O5)), hB⟩
      · have H := (bcase_iff.1 H).2 hc59
        refine bcase_mk (fun hc58 => ?_) (fun hc58 => ?_)
        · have H := (bcase_iff.1 H).1 hc58
          refine ⟨_, (O3.at 2 rfl rfl), ?_⟩
          refine buildOwn el3 ([(rd xs0 x1).B, (IntKind.wrap .i64 (x1 + 1))] : List Int) (fun _ => by kernel_rfl) rfl (fun A39 w40 P6 e41 => ?_)
          have N6_3 := P6.apart_old O3.lt
          have O3 := O3.ext e41
          have O6 := P6.mono hB.size
          have hB := ethen hB e41
          obtain ⟨hp44, H⟩ := H
          obtain ⟨r42, hr43⟩ : ∃ r_, r_ = M.slices_Sort_int_int ([(rd xs0 x1).B, (IntKind.wrap .i64 (x1 + 1))] : List Int) := ⟨_, rfl⟩
          have H := H r42 hr43
          refine (cllArgs (by first | (simp only [List.length_set]; done) | (simp; done)) (slices_Sort_int_int.con hp44 hr43 (O6.mono (Nat.zero_le _)))).mono ?_
          rintro _ w45 ⟨rfl, Q6, hl47, e46⟩
          have O3 := O3.chgS e46 (N6_3).inb
          have hB := Chg.ext hB e46 O6.low
          have O6 := Q6.up O6
          refine ⟨rfl, ?_⟩
          obtain ⟨hp50, H⟩ := H
          obtain ⟨r48, hr49⟩ : ∃ r_, r_ = M.slices_Compact_int_int r42 := ⟨_, rfl⟩
          have H := H r48 hr49
          refine (cllArgs (by first | (simp only [List.length_set, hl47]; done) | (simp; done)) (slices_Compact_int_int.con hp50 hr49 (O6.mono (Nat.zero_le _)))).mono ?_
          rintro _ w51 ⟨A53, c54, rfl, P7, Mv7, e52⟩
          have Lw7 := Mv7.low O6.low hB.size
          have O3 := O3.chgS e52 (N6_3).inb
          have hB := Chg.ext hB e52 O6.low
          have O7 := P7.lift Lw7
          refine ⟨A53, r48.length, c54, rfl, ?_⟩
          obtain rfl := hr.trans H.symm
          exact ⟨A53, c54, rfl, O7, hB⟩
        · have H := (bcase_iff.1 H).2 hc58
          refine buildOwn el3 ([(IntKind.wrap .i64 (x1 + 1))] : List Int) (fun _ => by kernel_rfl) rfl (fun A55 w56 P8 e57 => ?_)
          have N8_3 := P8.apart_old O3.lt
          have O3 := O3.ext e57
          have O8 := P8.mono hB.size
          have hB := ethen hB e57
          obtain rfl := hr.trans H.symm
          exact ⟨A55, 1, (by first | rfl | (simp; done) | (simp; omega) | (simp [*]; done)), (by first | exact O8 | (simp only [List.length_set]; exact O8)), hB⟩

def impl_BranchesOf.vc (A0 : Option Addr) (n0 : Nat) (c0 : Nat) (w : World) (K : Value → World → Prop) : Prop :=
  Cll Try.prog 76 #[(.slice A0 n0 c0)] w fun v21 w22 => (∃ (b23 : Bool), v21 = (.bool b23) ∧ bcase (!b23) (K (.slice none 0 0) w22) (Run Try.prog (Instr.buildSlice 24 0 #[]) w22 fun v24 w25 => ∃ (A26 : Option Addr) (n27 c28 : Nat), v24 = .slice A26 n27 c28 ∧ LoopT (σ := (Option Addr × Nat × Nat) × Int × Unit) (fun z29 w30 next31 => bcase (decide (z29.2.1 < ((n0 : Nat) : Int))) (Cll Try.prog 91 #[(.slice A0 n0 c0), (.int .i64 z29.2.1)] w30 fun v32 w33 => (∃ (A34 : Option Addr) (n35 : Nat) (c36 : Nat), v32 = (.slice A34 n35 c36) ∧ bcase (((n35 : Nat) : Int) == 2) (Run Try.prog (Instr.buildSlice 24 1 #[(0, (.int .i64 z29.2.1))]) w33 fun v37 w38 => ∃ (A39 : Option Addr) (n40 c41 : Nat), v37 = .slice A39 n40 c41 ∧ Run Try.prog (Builtin.append_ #[24, 24] 24 #[(.slice z29.1.1 z29.1.2.1 z29.1.2.2), (.slice A39 n40 c41)]) w38 fun v42 w43 => ∃ (A44 : Option Addr) (n45 c46 : Nat), v42 = .slice A44 n45 c46 ∧ next31 ((A44, n45, c46), (IntKind.wrap .i64 (z29.2.1 + 1)), ()) w43) (next31 ((z29.1.1, z29.1.2.1, z29.1.2.2), (IntKind.wrap .i64 (z29.2.1 + 1)), ()) w33))) (K (.slice z29.1.1 z29.1.2.1 z29.1.2.2) w30)) ((A26, n27, c28), 0, ()) w25))

def impl_BranchesOf.ann : Ann := (.seq .l (.seq (.seq .l (.two (.seq .l .l) .l)) (.seq .l (.seq (.seq .l (.one (.loop [(3, .sl), (11, .int .i64)] (.seq .l (.seq (.two .l .l) (.seq (.one (.seq .l (.seq .l (.two .l .l)))) .l)))))) (.seq .l .l)))))

theorem impl_BranchesOf.vc_eq (A0 : Option Addr) (n0 : Nat) (c0 : Nat) (w : World) (K : Value → World → Prop) : vcF Try.prog Try.f78 impl_BranchesOf.ann [(.slice A0 n0 c0)] K w = impl_BranchesOf.vc A0 n0 c0 w K := by kernel_rfl

theorem impl_BranchesOf.start {A0 : Option Addr} {n0 : Nat} {c0 : Nat} {w : World} {K : Value → World → Prop} (h : impl_BranchesOf.vc A0 n0 c0 w K) : Cll Try.prog 78 #[(.slice A0 n0 c0)] w K :=
  vcF_sound mixed (fn := Try.f78) (by kernel_rfl) (by kernel_rfl) (an := impl_BranchesOf.ann) (args := [(.slice A0 n0 c0)]) (by rw [impl_BranchesOf.vc_eq]; exact h)

theorem impl_BranchesOf.con {xs0 : List D.Ins} {A0 : Option Addr} {c0 : Nat} {r : List Int} {w : World} (hp : M.impl_BranchesOf_pre xs0) (hr : r = M.impl_BranchesOf xs0) (R0 : Row el76 w A0 xs0) (hc0 : xs0.length ≤ c0) :
    Cll Try.prog 78 #[(.slice A0 xs0.length c0)] w (fun v_ w_ => ∃ (A0_ : Option Addr) (c0_ : Nat), v_ = (.slice A0_ r.length c0_) ∧ Own el3 w_ w.heap.size A0_ c0_ r ∧ Ext w w_) := by
  have H := wp.impl_BranchesOf.math xs0 hp
  have hB := Ext.refl w
  refine impl_BranchesOf.start ?_
  unfold impl_BranchesOf.vc
  unfold wp.impl_BranchesOf at H
  obtain ⟨hp23, H⟩ := H
  obtain ⟨r21, hr22⟩ : ∃ r_, r_ = M.impl_ProgramOk xs0 := ⟨_, rfl⟩
  have H := H r21 hr22
  refine (impl_ProgramOk.con hp23 hr22 (R0.ext hB) hc0).mono ?_
  rintro _ w24 ⟨rfl, e25⟩
  have hB := ethen hB e25
  refine ⟨r21, rfl, ?_⟩
  refine bcase_mk (fun hc65 => ?_) (fun hc65 => ?_)
  · have H := (bcase_iff.1 H).1 hc65
    obtain rfl := hr.trans H.symm
    exact ⟨none, 0, rfl, Own.nil, hB⟩
  · have H := (bcase_iff.1 H).2 hc65
    refine buildOwn el3 ([] : List Int) (fun _ => by kernel_rfl) rfl (fun A26 w27 P2 e28 => ?_)
    have O2 := P2.mono hB.size
    have hB := ethen hB e28
    obtain ⟨J34, ⟨m63, hJ62⟩, hS35⟩ := H
    refine ⟨fun m_ z_ w_ => ∃ (xs29 : List Int) (i32 : Int) (A30 : Option Addr) (c31 : Nat), z_ = ((A30, xs29.length, c31), i32, ()) ∧ J34 m_ (xs29, i32, ()) ∧ Ext w w_ ∧ Own el3 w_ w.heap.size A30 c31 xs29, ⟨m63, ([] : List Int), 0, A26, 0, rfl, hJ62, hB, O2⟩, ?_⟩
    rintro m33 _ w37 ⟨xs29, i32, A30, c31, rfl, hJ64, hB, O3⟩
    have H := hS35 m33 _ hJ64
    clear hS35 hJ64
    try dsimp only at H ⊢
    refine bcase_mk (fun hc60 => ?_) (fun hc60 => ?_)
    · have H := (bcase_iff.1 H).1 hc60
      obtain ⟨hp40, H⟩ := H
      obtain ⟨r38, hr39⟩ : ∃ r_, r_ = M.impl_next xs0 i32 := ⟨_, rfl⟩
      have H := H r38 hr39
      refine (impl_next.con hp40 hr39 (R0.ext hB) hc0).mono ?_
      rintro _ w41 ⟨A43, c44, rfl, P4, e42⟩
      have N3_4 := Own.apart2_new O3 P4 (Nat.le_refl _)
      have O3 := O3.ext e42
      have O4 := P4.mono hB.size
      have hB := ethen hB e42
      refine ⟨A43, r38.length, c44, rfl, ?_⟩
      refine bcase_mk (fun hc59 => ?_) (fun hc59 => ?_)
      · have H := (bcase_iff.1 H).1 hc59
        refine buildOwn el3 ([i32] : List Int) (fun _ => by kernel_rfl) rfl (fun A45 w46 P5 e47 => ?_)
        have N3_5 := Own.apart2_new O3 P5 (Nat.le_refl _)
        have N4_5 := Own.apart2_new O4 P5 (Nat.le_refl _)
        have O3 := O3.ext e47
        have O4 := O4.ext e47
        have O5 := P5.mono hB.size
        have hB := ethen hB e47
        obtain ⟨hl52, H⟩ := H
        refine appOwn slt24 slt24.under O3 O5.row hB.size rfl (by first | rfl | omega | (simp; done) | (simp; omega)) hl52 (fun A48 c49 w50 P3 e51 => ?_)
        have N4_3_ := Apart2.app (N3_4).symm e51 O4
        have O4 := O4.app e51 (N3_4).symm
        have N5_3_ := Apart2.app (N3_5).symm e51 O5
        have O5 := O5.app e51 (N3_5).symm
        have N4_3 := N4_3_
        have N5_3 := N5_3_
        have hB := eapp hB e51 O3
        have O3 := P3
        obtain ⟨m53, hm54, hJ55⟩ := H
        exact ⟨m53, hm54, (xs29 ++ ([i32] : List Int)), (IntKind.wrap .i64 (i32 + 1)), A48, c49, rfl, hJ55, hB, O3⟩
      · have H := (bcase_iff.1 H).2 hc59
        obtain ⟨m56, hm57, hJ58⟩ := H
        exact ⟨m56, hm57, xs29, (IntKind.wrap .i64 (i32 + 1)), A30, c31, rfl, hJ58, hB, O3⟩
    · have H := (bcase_iff.1 H).2 hc60
      obtain rfl := hr.trans H.symm
      exact ⟨A30, c31, rfl, O3, hB⟩

def impl_isBranch.vc (A0 : Option Addr) (n0 : Nat) (c0 : Nat) (x1 : Int) (w : World) (K : Value → World → Prop) : Prop :=
  Cll Try.prog 78 #[(.slice A0 n0 c0)] w fun v21 w22 => (∃ (A23 : Option Addr) (n24 : Nat) (c25 : Nat), v21 = (.slice A23 n24 c25) ∧ Cll Try.prog 172 #[(.slice A23 n24 c25), (.int .i64 x1)] w22 fun v26 w27 => (∃ (b28 : Bool), v26 = (.bool b28) ∧ K (.bool b28) w27))

def impl_isBranch.ann : Ann := (.seq .l (.seq .l .l))

theorem impl_isBranch.vc_eq (A0 : Option Addr) (n0 : Nat) (c0 : Nat) (x1 : Int) (w : World) (K : Value → World → Prop) : vcF Try.prog Try.f133 impl_isBranch.ann [(.slice A0 n0 c0), (.int .i64 x1)] K w = impl_isBranch.vc A0 n0 c0 x1 w K := by kernel_rfl

theorem impl_isBranch.start {A0 : Option Addr} {n0 : Nat} {c0 : Nat} {x1 : Int} {w : World} {K : Value → World → Prop} (h : impl_isBranch.vc A0 n0 c0 x1 w K) : Cll Try.prog 133 #[(.slice A0 n0 c0), (.int .i64 x1)] w K :=
  vcF_sound mixed (fn := Try.f133) (by kernel_rfl) (by kernel_rfl) (an := impl_isBranch.ann) (args := [(.slice A0 n0 c0), (.int .i64 x1)]) (by rw [impl_isBranch.vc_eq]; exact h)

theorem impl_isBranch.con {xs0 : List D.Ins} {A0 : Option Addr} {c0 : Nat} {x1 : Int} {r : Bool} {w : World} (hp : M.impl_isBranch_pre xs0 x1) (hr : r = M.impl_isBranch xs0 x1) (R0 : Row el76 w A0 xs0) (hc0 : xs0.length ≤ c0) :
    Cll Try.prog 133 #[(.slice A0 xs0.length c0), (.int .i64 x1)] w (fun v_ w_ => v_ = (.bool r) ∧ Ext w w_) := by
  have H := wp.impl_isBranch.math xs0 x1 hp
  have hB := Ext.refl w
  refine impl_isBranch.start ?_
  unfold impl_isBranch.vc
  unfold wp.impl_isBranch at H
  obtain ⟨hp23, H⟩ := H
  obtain ⟨r21, hr22⟩ : ∃ r_, r_ = M.impl_BranchesOf xs0 := ⟨_, rfl⟩
  have H := H r21 hr22
  refine (impl_BranchesOf.con hp23 hr22 (R0.ext hB) hc0).mono ?_
  rintro _ w24 ⟨A26, c27, rfl, P2, e25⟩
  have O2 := P2.mono hB.size
  have hB := ethen hB e25
  refine ⟨A26, r21.length, c27, rfl, ?_⟩
  obtain ⟨hp30, H⟩ := H
  obtain ⟨r28, hr29⟩ : ∃ r_, r_ = M.slices_Contains_int_int r21 x1 := ⟨_, rfl⟩
  have H := H r28 hr29
  refine (slices_Contains_int_int.con hp30 hr29 O2.row O2.le).mono ?_
  rintro _ w31 ⟨rfl, e32⟩
  have O2 := O2.ext e32
  have hB := ethen hB e32
  refine ⟨r28, rfl, ?_⟩
  obtain rfl := hr.trans H.symm
  exact ⟨rfl, hB⟩

def impl_reached.vc (A0 : Option Addr) (n0 : Nat) (c0 : Nat) (A1 : Option Addr) (n1 : Nat) (c1 : Nat) (x2 : Int) (w : World) (K : Value → World → Prop) : Prop :=
  vcMake Try.prog 87 (IntKind.wrap .i64 (((n0 : Nat) : Int) + 1)) (IntKind.wrap .i64 (((n0 : Nat) : Int) + 1)) w fun g21 w22 => Cll Try.prog 66 #[(.slice A1 n1 c1)] w22 fun v23 w24 => (∃ (A25 : Option Addr) (n26 : Nat) (c27 : Nat), v23 = (.slice A25 n26 c27) ∧ LoopT (σ := (Option Addr × Nat × Nat) × Unit) (fun z28 w29 next30 => bcase (decide (((z28.1.2.1 : Nat) : Int) > 0)) (((0 : Int) ≤ 0 ∧ 0 < ((z28.1.2.1 : Nat) : Int) ∧ ∃ a31 : Addr, z28.1.1 = some a31 ∧ ∃ (n32 : Int), w29.cell? ((a31.add (((0 : Int).toNat) * 1)).add 0) = some (.int .i64 n32) ∧ ((0 : Int) ≤ 1 ∧ 1 ≤ ((z28.1.2.1 : Nat) : Int) ∧ bcase (n32 == x2) (next30 (((if z28.1.2.2 = ((1 : Int).toNat) then z28.1.1 else z28.1.1.map (·.add (((1 : Int).toNat) * szOf Try.prog 3))), (z28.1.2.1 - ((1 : Int).toNat)), (z28.1.2.2 - ((1 : Int).toNat))), ()) w29) (((0 : Int) ≤ n32 ∧ n32 < ((((IntKind.wrap .i64 (((n0 : Nat) : Int) + 1)).toNat) : Nat) : Int) ∧ ∃ a34 : Addr, (some (⟨g21, 0, none⟩ : Addr)) = some a34 ∧ ∃ (b35 : Bool), w29.cell? ((a34.add ((n32.toNat) * 1)).add 0) = some (.bool b35) ∧ bcase b35 (next30 (((if z28.1.2.2 = ((1 : Int).toNat) then z28.1.1 else z28.1.1.map (·.add (((1 : Int).toNat) * szOf Try.prog 3))), (z28.1.2.1 - ((1 : Int).toNat)), (z28.1.2.2 - ((1 : Int).toNat))), ()) w29) (((0 : Int) ≤ n32 ∧ n32 < ((((IntKind.wrap .i64 (((n0 : Nat) : Int) + 1)).toNat) : Nat) : Int) ∧ ∃ a36 : Addr, (some (⟨g21, 0, none⟩ : Addr)) = some a36 ∧ stCells (a36.add ((n32.toNat) * 1)) [(.bool true)] 0 w29 fun w37 => Cll Try.prog 91 #[(.slice A0 n0 c0), (.int .i64 n32)] w37 fun v38 w39 => (∃ (A40 : Option Addr) (n41 : Nat) (c42 : Nat), v38 = (.slice A40 n41 c42) ∧ Run Try.prog (Builtin.append_ #[24, 24] 24 #[(.slice (if z28.1.2.2 = ((1 : Int).toNat) then z28.1.1 else z28.1.1.map (·.add (((1 : Int).toNat) * szOf Try.prog 3))) (z28.1.2.1 - ((1 : Int).toNat)) (z28.1.2.2 - ((1 : Int).toNat))), (.slice A40 n41 c42)]) w39 fun v43 w44 => ∃ (A45 : Option Addr) (n46 c47 : Nat), v43 = .slice A45 n46 c47 ∧ next30 ((A45, n46, c47), ()) w44)))))))) (K (.slice (some (⟨g21, 0, none⟩ : Addr)) ((IntKind.wrap .i64 (((n0 : Nat) : Int) + 1)).toNat) ((IntKind.wrap .i64 (((n0 : Nat) : Int) + 1)).toNat)) w29)) ((A25, n26, c27), ()) w24)

def impl_reached.ann : Ann := (.seq .l (.seq .l (.seq .l (.seq (.one (.loop [(8, .sl)] (.seq (.seq .l (.two .l .l)) (.one (.seq .l (.seq .l (.seq (.seq .l (.two .l .l)) (.seq .l .l)))))))) (.seq .l .l)))))

theorem impl_reached.vc_eq (A0 : Option Addr) (n0 : Nat) (c0 : Nat) (A1 : Option Addr) (n1 : Nat) (c1 : Nat) (x2 : Int) (w : World) (K : Value → World → Prop) : vcF Try.prog Try.f90 impl_reached.ann [(.slice A0 n0 c0), (.slice A1 n1 c1), (.int .i64 x2)] K w = impl_reached.vc A0 n0 c0 A1 n1 c1 x2 w K := by kernel_rfl

theorem impl_reached.start {A0 : Option Addr} {n0 : Nat} {c0 : Nat} {A1 : Option Addr} {n1 : Nat} {c1 : Nat} {x2 : Int} {w : World} {K : Value → World → Prop} (h : impl_reached.vc A0 n0 c0 A1 n1 c1 x2 w K) : Cll Try.prog 90 #[(.slice A0 n0 c0), (.slice A1 n1 c1), (.int .i64 x2)] w K :=
  vcF_sound mixed (fn := Try.f90) (by kernel_rfl) (by kernel_rfl) (an := impl_reached.ann) (args := [(.slice A0 n0 c0), (.slice A1 n1 c1), (.int .i64 x2)]) (by rw [impl_reached.vc_eq]; exact h)

theorem impl_reached.con {xs0 : List D.Ins} {A0 : Option Addr} {c0 : Nat} {xs1 : List Int} {A1 : Option Addr} {c1 : Nat} {x2 : Int} {r : List Bool} {w : World} (hp : M.impl_reached_pre xs0 xs1 x2) (hr : r = M.impl_reached xs0 xs1 x2) (R0 : Row el76 w A0 xs0) (hc0 : xs0.length ≤ c0) (R1 : Row el3 w A1 xs1) (hc1 : xs1.length ≤ c1) :
    Cll Try.prog 90 #[(.slice A0 xs0.length c0), (.slice A1 xs1.length c1), (.int .i64 x2)] w (fun v_ w_ => ∃ (A0_ : Option Addr) (c0_ : Nat), v_ = (.slice A0_ r.length c0_) ∧ Own el4 w_ w.heap.size A0_ c0_ r ∧ Ext w w_) := by
  have H := wp.impl_reached.math xs0 xs1 x2 hp
  have hB := Ext.refl w
  refine impl_reached.start ?_
  unfold impl_reached.vc
  unfold wp.impl_reached at H
  obtain ⟨⟨h0_24, h1_25⟩, H⟩ := H
  refine makeOwn slt87 h0_24 h1_25 (fun g21 w22 P3 e23 => ?_)
  have O3 := P3.mono hB.size
  have hB := ethen hB e23
  obtain ⟨hp28, H⟩ := H
  obtain ⟨r26, hr27⟩ : ∃ r_, r_ = M.slices_Clone_int_int xs1 := ⟨_, rfl⟩
  have H := H r26 hr27
  refine (slices_Clone_int_int.con hp28 hr27 (R1.ext hB) hc1).mono ?_
  rintro _ w29 ⟨A31, c32, rfl, P4, e30⟩
  have N3_4 := Own.apart2_new O3 P4 (Nat.le_refl _)
  have O3 := O3.ext e30
  have O4 := P4.mono hB.size
  have hB := ethen hB e30
  refine ⟨A31, r26.length, c32, rfl, ?_⟩
  obtain ⟨J85, ⟨m135, hJ134⟩, hS86⟩ := H
  refine ⟨fun m_ z_ w_ => ∃ (xs79 : List Int) (xs82 : List Bool) (A80 : Option Addr) (c81 : Nat), z_ = ((A80, xs79.length, c81), ()) ∧ J85 m_ (xs79, xs82, ()) ∧ Ext w w_ ∧ Own el3 w_ w.heap.size A80 c81 xs79 ∧ Own el4 w_ w.heap.size (some (⟨g21, 0, none⟩ : Addr)) ((IntKind.wrap .i64 (((xs0.length : Nat) : Int) + 1)).toNat) xs82 ∧ ((IntKind.wrap .i64 (((xs0.length : Nat) : Int) + 1)).toNat) = xs82.length, ⟨m135, r26, (List.replicate ((IntKind.wrap .i64 (((xs0.length : Nat) : Int) + 1)).toNat) (default : Bool)), A31, c32, rfl, hJ134, hB, O4, O3, (by first | rfl | assumption | (simp; done) | (simp; omega) | (simp; assumption))⟩, ?_⟩
  rintro m84 _ w88 ⟨xs79, xs82, A80, c81, rfl, hJ136, hB, O8, O3, hn83⟩
  have H := hS86 m84 _ hJ136
  clear hS86 hJ136
  try dsimp only at H ⊢
  refine bcase_mk (fun hc132 => ?_) (fun hc132 => ?_)
  · have H := (bcase_iff.1 H).1 hc132
    obtain ⟨⟨h0_92, h1_93⟩, H⟩ := H
    obtain ⟨a90, ha91, hat89⟩ := Row.at O8.row h0_92 h1_93
    refine ⟨h0_92, h1_93, a90, ha91, ?_⟩
    refine ⟨_, (hat89 0 _ rfl), ?_⟩
    obtain ⟨⟨hl94, hl95⟩, H⟩ := H
    refine and_assoc.1 ⟨⟨hl94, hl95⟩, ?_⟩
    rw [show (xs79.length - ((1 : Int).toNat)) = ((List.drop ((1 : Int).toNat) xs79)).length from by first | rfl | (simp; done) | (simp; omega)]
    have O9 := (O8.drop (l := ((1 : Int).toNat)) (by first | omega | (simp; done) | (simp; omega)))
    refine bcase_mk (fun hc131 => ?_) (fun hc131 => ?_)
    · have H := (bcase_iff.1 H).1 hc131
      obtain ⟨m96, hm97, hJ98⟩ := H
      exact ⟨m96, hm97, (List.drop ((1 : Int).toNat) xs79), xs82, (cutA c81 ((1 : Int).toNat) A80 1), (c81 - ((1 : Int).toNat)), rfl, hJ98, hB, O9, O3, (by first | rfl | assumption | (simp; done) | (simp; omega) | (simp; assumption))⟩
    · have H := (bcase_iff.1 H).2 hc131
      obtain ⟨⟨h0_102, h1_103⟩, H⟩ := H
      obtain ⟨a100, ha101, hat99⟩ := Row.at O3.row h0_102 h1_103
      refine ⟨h0_102, (by first | exact h1_103 | omega | (simp at h1_103 ⊢; omega)), a100, ha101, ?_⟩
      refine ⟨_, (hat99 0 _ rfl), ?_⟩
      refine bcase_mk (fun hc130 => ?_) (fun hc130 => ?_)
      · have H := (bcase_iff.1 H).1 hc130
        obtain ⟨m104, hm105, hJ106⟩ := H
        exact ⟨m104, hm105, (List.drop ((1 : Int).toNat) xs79), xs82, (cutA c81 ((1 : Int).toNat) A80 1), (c81 - ((1 : Int).toNat)), rfl, hJ106, hB, O9, O3, (by first | rfl | assumption | (simp; done) | (simp; omega) | (simp; assumption))⟩
      · have H := (bcase_iff.1 H).2 hc130
        obtain ⟨⟨h0_110, h1_111⟩, H⟩ := H
        obtain ⟨a108, ha109, hat107⟩ := Row.at O3.row h0_110 h1_111
        refine ⟨h0_110, (by first | exact h1_111 | omega | (simp at h1_111 ⊢; omega)), a108, ha109, ?_⟩
        refine Own.storeAt O3 ha109 h0_110 h1_111 0 [(.bool true)] true rfl (Nat.le_of_ble_eq_true rfl) rfl (fun w112 P3 e113 hb114 => ?_)
        have O8_ := O8.chg e113 (((Own.apart2_type O8 O3 (by decide))).left ha109)
        have O9_ := O9.chg e113 (((cutApart2 (Own.apart2_type O8 O3 (by decide)))).left ha109)
        have O8 := O8_
        have O9 := O9_
        have hB := echg hB e113 hb114
        have O3 := P3
        obtain ⟨hp117, H⟩ := H
        obtain ⟨r115, hr116⟩ : ∃ r_, r_ = M.impl_next xs0 (rd xs79 0) := ⟨_, rfl⟩
        have H := H r115 hr116
        refine (impl_next.con hp117 hr116 (R0.ext hB) hc0).mono ?_
        rintro _ w118 ⟨A120, c121, rfl, P10, e119⟩
        have N3_10 := Own.apart2_new O3 P10 (Nat.le_refl _)
        have N8_10 := Own.apart2_new O8 P10 (Nat.le_refl _)
        have N9_10 := Own.apart2_new O9 P10 (Nat.le_refl _)
        have O3 := O3.ext e119
        have O8 := O8.ext e119
        have O9 := O9.ext e119
        have O10 := P10.mono hB.size
        have hB := ethen hB e119
        refine ⟨A120, r115.length, c121, rfl, ?_⟩
        obtain ⟨hl126, H⟩ := H
        refine appOwn slt24 slt24.under O9 O10.row hB.size rfl rfl hl126 (fun A122 c123 w124 P9 e125 => ?_)
        have N3_9_ := Apart2.app (cutApart2 (Own.apart2_type O3 O8 (by decide)).symm).symm e125 O3
        have O3 := O3.app e125 (cutApart2 (Own.apart2_type O3 O8 (by decide)).symm).symm
        have N10_9_ := Apart2.app (N9_10).symm e125 O10
        have O10 := O10.app e125 (N9_10).symm
        have N3_9 := N3_9_
        have N10_9 := N10_9_
        have hB := eapp hB e125 O9
        have O9 := P9
        obtain ⟨m127, hm128, hJ129⟩ := H
        exact ⟨m127, hm128, ((List.drop ((1 : Int).toNat) xs79) ++ r115), (List.set xs82 ((rd xs79 0).toNat) true), A122, c123, rfl, hJ129, hB, O9, O3, (by first | rfl | assumption | (simp; done) | (simp; omega) | (simp; assumption))⟩
  · have H := (bcase_iff.1 H).2 hc132
    obtain rfl := hr.trans H.symm
    exact ⟨(some (⟨g21, 0, none⟩ : Addr)), ((IntKind.wrap .i64 (((xs0.length : Nat) : Int) + 1)).toNat), (by first | rfl | (simp; done) | (simp; omega) | (simp [*]; done)), (by first | exact O3 | (simp only [List.length_set]; exact O3)), hB⟩

def impl_reachesExit.vc (A0 : Option Addr) (n0 : Nat) (c0 : Nat) (x1 : Int) (w : World) (K : Value → World → Prop) : Prop :=
  Run Try.prog (Instr.buildSlice 24 1 #[(0, (.int .i64 x1))]) w fun v21 w22 => ∃ (A23 : Option Addr) (n24 c25 : Nat), v21 = .slice A23 n24 c25 ∧ Cll Try.prog 90 #[(.slice A0 n0 c0), (.slice A23 n24 c25), (.int .i64 (-1))] w22 fun v26 w27 => (∃ (A28 : Option Addr) (n29 : Nat) (c30 : Nat), v26 = (.slice A28 n29 c30) ∧ ((0 : Int) ≤ ((n0 : Nat) : Int) ∧ ((n0 : Nat) : Int) < ((n29 : Nat) : Int) ∧ ∃ a31 : Addr, A28 = some a31 ∧ ∃ (b32 : Bool), w27.cell? ((a31.add ((((n0 : Nat) : Int).toNat) * 1)).add 0) = some (.bool b32) ∧ K (.bool b32) w27))

def impl_reachesExit.ann : Ann := (.seq .l (.seq .l .l))

theorem impl_reachesExit.vc_eq (A0 : Option Addr) (n0 : Nat) (c0 : Nat) (x1 : Int) (w : World) (K : Value → World → Prop) : vcF Try.prog Try.f173 impl_reachesExit.ann [(.slice A0 n0 c0), (.int .i64 x1)] K w = impl_reachesExit.vc A0 n0 c0 x1 w K := by kernel_rfl

theorem impl_reachesExit.start {A0 : Option Addr} {n0 : Nat} {c0 : Nat} {x1 : Int} {w : World} {K : Value → World → Prop} (h : impl_reachesExit.vc A0 n0 c0 x1 w K) : Cll Try.prog 173 #[(.slice A0 n0 c0), (.int .i64 x1)] w K :=
  vcF_sound mixed (fn := Try.f173) (by kernel_rfl) (by kernel_rfl) (an := impl_reachesExit.ann) (args := [(.slice A0 n0 c0), (.int .i64 x1)]) (by rw [impl_reachesExit.vc_eq]; exact h)

theorem impl_reachesExit.con {xs0 : List D.Ins} {A0 : Option Addr} {c0 : Nat} {x1 : Int} {r : Bool} {w : World} (hp : M.impl_reachesExit_pre xs0 x1) (hr : r = M.impl_reachesExit xs0 x1) (R0 : Row el76 w A0 xs0) (hc0 : xs0.length ≤ c0) :
    Cll Try.prog 173 #[(.slice A0 xs0.length c0), (.int .i64 x1)] w (fun v_ w_ => v_ = (.bool r) ∧ Ext w w_) := by
  have H := wp.impl_reachesExit.math xs0 x1 hp
  have hB := Ext.refl w
  refine impl_reachesExit.start ?_
  unfold impl_reachesExit.vc
  unfold wp.impl_reachesExit at H
  refine buildOwn el3 ([x1] : List Int) (fun _ => by kernel_rfl) rfl (fun A21 w22 P2 e23 => ?_)
  have O2 := P2.mono hB.size
  have hB := ethen hB e23
  obtain ⟨hp26, H⟩ := H
  obtain ⟨r24, hr25⟩ : ∃ r_, r_ = M.impl_reached xs0 ([x1] : List Int) (-1) := ⟨_, rfl⟩
  have H := H r24 hr25
  refine (cllArgs (by first | (simp only [List.length_set]; done) | (simp; done)) (impl_reached.con hp26 hr25 (R0.ext hB) hc0 O2.row O2.le)).mono ?_
  rintro _ w27 ⟨A29, c30, rfl, P3, e28⟩
  have N2_3 := Own.apart2_new O2 P3 (Nat.le_refl _)
  have O2 := O2.ext e28
  have O3 := P3.mono hB.size
  have hB := ethen hB e28
  refine ⟨A29, r24.length, c30, rfl, ?_⟩
  obtain ⟨⟨h0_34, h1_35⟩, H⟩ := H
  obtain ⟨a32, ha33, hat31⟩ := Row.at O3.row h0_34 h1_35
  refine ⟨h0_34, h1_35, a32, ha33, ?_⟩
  refine ⟨_, (hat31 0 _ rfl), ?_⟩
  obtain rfl := hr.trans H.symm
  exact ⟨rfl, hB⟩

def impl_isNode.vc (A0 : Option Addr) (n0 : Nat) (c0 : Nat) (x1 : Int) (w : World) (K : Value → World → Prop) : Prop :=
  Cll Try.prog 76 #[(.slice A0 n0 c0)] w fun v21 w22 => (∃ (b23 : Bool), v21 = (.bool b23) ∧ bcase b23 (Cll Try.prog 94 #[(.int .i64 x1), (.int .i64 0), (.int .i64 ((n0 : Nat) : Int))] w22 fun v24 w25 => (∃ (b26 : Bool), v24 = (.bool b26) ∧ K (.bool b26) w25)) (K (.bool false) w22))

def impl_isNode.ann : Ann := (.seq .l (.seq .l .l))

theorem impl_isNode.vc_eq (A0 : Option Addr) (n0 : Nat) (c0 : Nat) (x1 : Int) (w : World) (K : Value → World → Prop) : vcF Try.prog Try.f142 impl_isNode.ann [(.slice A0 n0 c0), (.int .i64 x1)] K w = impl_isNode.vc A0 n0 c0 x1 w K := by kernel_rfl

theorem impl_isNode.start {A0 : Option Addr} {n0 : Nat} {c0 : Nat} {x1 : Int} {w : World} {K : Value → World → Prop} (h : impl_isNode.vc A0 n0 c0 x1 w K) : Cll Try.prog 142 #[(.slice A0 n0 c0), (.int .i64 x1)] w K :=
  vcF_sound mixed (fn := Try.f142) (by kernel_rfl) (by kernel_rfl) (an := impl_isNode.ann) (args := [(.slice A0 n0 c0), (.int .i64 x1)]) (by rw [impl_isNode.vc_eq]; exact h)

theorem impl_isNode.con {xs0 : List D.Ins} {A0 : Option Addr} {c0 : Nat} {x1 : Int} {r : Bool} {w : World} (hp : M.impl_isNode_pre xs0 x1) (hr : r = M.impl_isNode xs0 x1) (R0 : Row el76 w A0 xs0) (hc0 : xs0.length ≤ c0) :
    Cll Try.prog 142 #[(.slice A0 xs0.length c0), (.int .i64 x1)] w (fun v_ w_ => v_ = (.bool r) ∧ Ext w w_) := by
  have H := wp.impl_isNode.math xs0 x1 hp
  have hB := Ext.refl w
  refine impl_isNode.start ?_
  unfold impl_isNode.vc
  unfold wp.impl_isNode at H
  obtain ⟨hp23, H⟩ := H
  obtain ⟨r21, hr22⟩ : ∃ r_, r_ = M.impl_ProgramOk xs0 := ⟨_, rfl⟩
  have H := H r21 hr22
  refine (impl_ProgramOk.con hp23 hr22 (R0.ext hB) hc0).mono ?_
  rintro _ w24 ⟨rfl, e25⟩
  have hB := ethen hB e25
  refine ⟨r21, rfl, ?_⟩
  refine bcase_mk (fun hc31 => ?_) (fun hc31 => ?_)
  · have H := (bcase_iff.1 H).1 hc31
    obtain ⟨r26, hr27⟩ : ∃ r_, r_ = M.impl_within x1 0 ((xs0.length : Nat) : Int) := ⟨_, rfl⟩
    have H := H r26 hr27
    refine (impl_within.con hr27 ).mono ?_
    rintro _ w29 ⟨rfl, e30⟩
    have hB := ethen hB e30
    refine ⟨r26, rfl, ?_⟩
    obtain rfl := hr.trans H.symm
    exact ⟨rfl, hB⟩
  · have H := (bcase_iff.1 H).2 hc31
    obtain rfl := hr.trans H.symm
    exact ⟨rfl, hB⟩

def impl_isAfter.vc (A0 : Option Addr) (n0 : Nat) (c0 : Nat) (x1 : Int) (x2 : Int) (w : World) (K : Value → World → Prop) : Prop :=
  Cll Try.prog 173 #[(.slice A0 n0 c0), (.int .i64 x1)] w fun v21 w22 => (∃ (b23 : Bool), v21 = (.bool b23) ∧ bcase b23 (Run Try.prog (Instr.buildSlice 24 1 #[(0, (.int .i64 x1))]) w22 fun v24 w25 => ∃ (A26 : Option Addr) (n27 c28 : Nat), v24 = .slice A26 n27 c28 ∧ Cll Try.prog 90 #[(.slice A0 n0 c0), (.slice A26 n27 c28), (.int .i64 x2)] w25 fun v29 w30 => (∃ (A31 : Option Addr) (n32 : Nat) (c33 : Nat), v29 = (.slice A31 n32 c33) ∧ ((0 : Int) ≤ ((n0 : Nat) : Int) ∧ ((n0 : Nat) : Int) < ((n32 : Nat) : Int) ∧ ∃ a34 : Addr, A31 = some a34 ∧ ∃ (b35 : Bool), w30.cell? ((a34.add ((((n0 : Nat) : Int).toNat) * 1)).add 0) = some (.bool b35) ∧ K (.bool (!b35)) w30))) (K (.bool false) w22))

def impl_isAfter.ann : Ann := (.seq .l (.seq .l .l))

theorem impl_isAfter.vc_eq (A0 : Option Addr) (n0 : Nat) (c0 : Nat) (x1 : Int) (x2 : Int) (w : World) (K : Value → World → Prop) : vcF Try.prog Try.f215 impl_isAfter.ann [(.slice A0 n0 c0), (.int .i64 x1), (.int .i64 x2)] K w = impl_isAfter.vc A0 n0 c0 x1 x2 w K := by kernel_rfl

theorem impl_isAfter.start {A0 : Option Addr} {n0 : Nat} {c0 : Nat} {x1 : Int} {x2 : Int} {w : World} {K : Value → World → Prop} (h : impl_isAfter.vc A0 n0 c0 x1 x2 w K) : Cll Try.prog 215 #[(.slice A0 n0 c0), (.int .i64 x1), (.int .i64 x2)] w K :=
  vcF_sound mixed (fn := Try.f215) (by kernel_rfl) (by kernel_rfl) (an := impl_isAfter.ann) (args := [(.slice A0 n0 c0), (.int .i64 x1), (.int .i64 x2)]) (by rw [impl_isAfter.vc_eq]; exact h)

theorem impl_isAfter.con {xs0 : List D.Ins} {A0 : Option Addr} {c0 : Nat} {x1 : Int} {x2 : Int} {r : Bool} {w : World} (hp : M.impl_isAfter_pre xs0 x1 x2) (hr : r = M.impl_isAfter xs0 x1 x2) (R0 : Row el76 w A0 xs0) (hc0 : xs0.length ≤ c0) :
    Cll Try.prog 215 #[(.slice A0 xs0.length c0), (.int .i64 x1), (.int .i64 x2)] w (fun v_ w_ => v_ = (.bool r) ∧ Ext w w_) := by
  have H := wp.impl_isAfter.math xs0 x1 x2 hp
  have hB := Ext.refl w
  refine impl_isAfter.start ?_
  unfold impl_isAfter.vc
  unfold wp.impl_isAfter at H
  obtain ⟨hp23, H⟩ := H
  obtain ⟨r21, hr22⟩ : ∃ r_, r_ = M.impl_reachesExit xs0 x1 := ⟨_, rfl⟩
  have H := H r21 hr22
  refine (impl_reachesExit.con hp23 hr22 (R0.ext hB) hc0).mono ?_
  rintro _ w24 ⟨rfl, e25⟩
  have hB := ethen hB e25
  refine ⟨r21, rfl, ?_⟩
  refine bcase_mk (fun hc41 => ?_) (fun hc41 => ?_)
  · have H := (bcase_iff.1 H).1 hc41
    refine buildOwn el3 ([x1] : List Int) (fun _ => by kernel_rfl) rfl (fun A26 w27 P2 e28 => ?_)
    have O2 := P2.mono hB.size
    have hB := ethen hB e28
    obtain ⟨hp31, H⟩ := H
    obtain ⟨r29, hr30⟩ : ∃ r_, r_ = M.impl_reached xs0 ([x1] : List Int) x2 := ⟨_, rfl⟩
    have H := H r29 hr30
    refine (cllArgs (by first | (simp only [List.length_set]; done) | (simp; done)) (impl_reached.con hp31 hr30 (R0.ext hB) hc0 O2.row O2.le)).mono ?_
    rintro _ w32 ⟨A34, c35, rfl, P3, e33⟩
    have N2_3 := Own.apart2_new O2 P3 (Nat.le_refl _)
    have O2 := O2.ext e33
    have O3 := P3.mono hB.size
    have hB := ethen hB e33
    refine ⟨A34, r29.length, c35, rfl, ?_⟩
    obtain ⟨⟨h0_39, h1_40⟩, H⟩ := H
    obtain ⟨a37, ha38, hat36⟩ := Row.at O3.row h0_39 h1_40
    refine ⟨h0_39, h1_40, a37, ha38, ?_⟩
    refine ⟨_, (hat36 0 _ rfl), ?_⟩
    obtain rfl := hr.trans H.symm
    exact ⟨rfl, hB⟩
  · have H := (bcase_iff.1 H).2 hc41
    obtain rfl := hr.trans H.symm
    exact ⟨rfl, hB⟩

def impl_IsAfter.vc (A0 : Option Addr) (n0 : Nat) (c0 : Nat) (x1 : Int) (x2 : Int) (w : World) (K : Value → World → Prop) : Prop :=
  Cll Try.prog 142 #[(.slice A0 n0 c0), (.int .i64 x1)] w fun v21 w22 => (∃ (b23 : Bool), v21 = (.bool b23) ∧ bcase b23 (Cll Try.prog 142 #[(.slice A0 n0 c0), (.int .i64 x2)] w22 fun v24 w25 => (∃ (b26 : Bool), v24 = (.bool b26) ∧ bcase b26 (Cll Try.prog 215 #[(.slice A0 n0 c0), (.int .i64 x1), (.int .i64 x2)] w25 fun v27 w28 => (∃ (b29 : Bool), v27 = (.bool b29) ∧ K (.bool b29) w28)) (K (.bool false) w25))) (K (.bool false) w22))

def impl_IsAfter.ann : Ann := (.seq .l (.seq .l .l))

theorem impl_IsAfter.vc_eq (A0 : Option Addr) (n0 : Nat) (c0 : Nat) (x1 : Int) (x2 : Int) (w : World) (K : Value → World → Prop) : vcF Try.prog Try.f216 impl_IsAfter.ann [(.slice A0 n0 c0), (.int .i64 x1), (.int .i64 x2)] K w = impl_IsAfter.vc A0 n0 c0 x1 x2 w K := by kernel_rfl

theorem impl_IsAfter.start {A0 : Option Addr} {n0 : Nat} {c0 : Nat} {x1 : Int} {x2 : Int} {w : World} {K : Value → World → Prop} (h : impl_IsAfter.vc A0 n0 c0 x1 x2 w K) : Cll Try.prog 216 #[(.slice A0 n0 c0), (.int .i64 x1), (.int .i64 x2)] w K :=
  vcF_sound mixed (fn := Try.f216) (by kernel_rfl) (by kernel_rfl) (an := impl_IsAfter.ann) (args := [(.slice A0 n0 c0), (.int .i64 x1), (.int .i64 x2)]) (by rw [impl_IsAfter.vc_eq]; exact h)

theorem impl_IsAfter.con {xs0 : List D.Ins} {A0 : Option Addr} {c0 : Nat} {x1 : Int} {x2 : Int} {r : Bool} {w : World} (hp : M.impl_IsAfter_pre xs0 x1 x2) (hr : r = M.impl_IsAfter xs0 x1 x2) (R0 : Row el76 w A0 xs0) (hc0 : xs0.length ≤ c0) :
    Cll Try.prog 216 #[(.slice A0 xs0.length c0), (.int .i64 x1), (.int .i64 x2)] w (fun v_ w_ => v_ = (.bool r) ∧ Ext w w_) := by
  have H := wp.impl_IsAfter.math xs0 x1 x2 hp
  have hB := Ext.refl w
  refine impl_IsAfter.start ?_
  unfold impl_IsAfter.vc
  unfold wp.impl_IsAfter at H
  obtain ⟨hp23, H⟩ := H
  obtain ⟨r21, hr22⟩ : ∃ r_, r_ = M.impl_isNode xs0 x1 := ⟨_, rfl⟩
  have H := H r21 hr22
  refine (impl_isNode.con hp23 hr22 (R0.ext hB) hc0).mono ?_
  rintro _ w24 ⟨rfl, e25⟩
  have hB := ethen hB e25
  refine ⟨r21, rfl, ?_⟩
  refine bcase_mk (fun hc37 => ?_) (fun hc37 => ?_)
  · have H := (bcase_iff.1 H).1 hc37
    obtain ⟨hp28, H⟩ := H
    obtain ⟨r26, hr27⟩ : ∃ r_, r_ = M.impl_isNode xs0 x2 := ⟨_, rfl⟩
    have H := H r26 hr27
    refine (impl_isNode.con hp28 hr27 (R0.ext hB) hc0).mono ?_
    rintro _ w29 ⟨rfl, e30⟩
    have hB := ethen hB e30
    refine ⟨r26, rfl, ?_⟩
    refine bcase_mk (fun hc36 => ?_) (fun hc36 => ?_)
    · have H := (bcase_iff.1 H).1 hc36
      obtain ⟨hp33, H⟩ := H
      obtain ⟨r31, hr32⟩ : ∃ r_, r_ = M.impl_isAfter xs0 x1 x2 := ⟨_, rfl⟩
      have H := H r31 hr32
      refine (impl_isAfter.con hp33 hr32 (R0.ext hB) hc0).mono ?_
      rintro _ w34 ⟨rfl, e35⟩
      have hB := ethen hB e35
      refine ⟨r31, rfl, ?_⟩
      obtain rfl := hr.trans H.symm
      exact ⟨rfl, hB⟩
    · have H := (bcase_iff.1 H).2 hc36
      obtain rfl := hr.trans H.symm
      exact ⟨rfl, hB⟩
  · have H := (bcase_iff.1 H).2 hc37
    obtain rfl := hr.trans H.symm
    exact ⟨rfl, hB⟩

def impl_AftersOf.vc (A0 : Option Addr) (n0 : Nat) (c0 : Nat) (x1 : Int) (w : World) (K : Value → World → Prop) : Prop :=
  Run Try.prog (Instr.buildSlice 24 0 #[]) w fun v21 w22 => ∃ (A23 : Option Addr) (n24 c25 : Nat), v21 = .slice A23 n24 c25 ∧ LoopT (σ := (Option Addr × Nat × Nat) × Int × Unit) (fun z26 w27 next28 => bcase (decide (z26.2.1 < (IntKind.wrap .i64 (((n0 : Nat) : Int) + 1)))) (Cll Try.prog 216 #[(.slice A0 n0 c0), (.int .i64 x1), (.int .i64 z26.2.1)] w27 fun v29 w30 => (∃ (b31 : Bool), v29 = (.bool b31) ∧ bcase b31 (Run Try.prog (Instr.buildSlice 24 1 #[(0, (.int .i64 z26.2.1))]) w30 fun v32 w33 => ∃ (A34 : Option Addr) (n35 c36 : Nat), v32 = .slice A34 n35 c36 ∧ Run Try.prog (Builtin.append_ #[24, 24] 24 #[(.slice z26.1.1 z26.1.2.1 z26.1.2.2), (.slice A34 n35 c36)]) w33 fun v37 w38 => ∃ (A39 : Option Addr) (n40 c41 : Nat), v37 = .slice A39 n40 c41 ∧ next28 ((A39, n40, c41), (IntKind.wrap .i64 (z26.2.1 + 1)), ()) w38) (next28 ((z26.1.1, z26.1.2.1, z26.1.2.2), (IntKind.wrap .i64 (z26.2.1 + 1)), ()) w30))) (K (.slice z26.1.1 z26.1.2.1 z26.1.2.2) w27)) ((A23, n24, c25), 0, ()) w22

def impl_AftersOf.ann : Ann := (.seq .l (.seq .l (.seq (.seq .l (.one (.loop [(5, .sl), (11, .int .i64)] (.seq .l (.seq (.two .l .l) (.seq (.one (.seq .l (.seq .l (.two .l .l)))) .l)))))) (.seq .l .l))))

theorem impl_AftersOf.vc_eq (A0 : Option Addr) (n0 : Nat) (c0 : Nat) (x1 : Int) (w : World) (K : Value → World → Prop) : vcF Try.prog Try.f195 impl_AftersOf.ann [(.slice A0 n0 c0), (.int .i64 x1)] K w = impl_AftersOf.vc A0 n0 c0 x1 w K := by kernel_rfl

theorem impl_AftersOf.start {A0 : Option Addr} {n0 : Nat} {c0 : Nat} {x1 : Int} {w : World} {K : Value → World → Prop} (h : impl_AftersOf.vc A0 n0 c0 x1 w K) : Cll Try.prog 195 #[(.slice A0 n0 c0), (.int .i64 x1)] w K :=
  vcF_sound mixed (fn := Try.f195) (by kernel_rfl) (by kernel_rfl) (an := impl_AftersOf.ann) (args := [(.slice A0 n0 c0), (.int .i64 x1)]) (by rw [impl_AftersOf.vc_eq]; exact h)

theorem impl_AftersOf.con {xs0 : List D.Ins} {A0 : Option Addr} {c0 : Nat} {x1 : Int} {r : List Int} {w : World} (hp : M.impl_AftersOf_pre xs0 x1) (hr : r = M.impl_AftersOf xs0 x1) (R0 : Row el76 w A0 xs0) (hc0 : xs0.length ≤ c0) :
    Cll Try.prog 195 #[(.slice A0 xs0.length c0), (.int .i64 x1)] w (fun v_ w_ => ∃ (A0_ : Option Addr) (c0_ : Nat), v_ = (.slice A0_ r.length c0_) ∧ Own el3 w_ w.heap.size A0_ c0_ r ∧ Ext w w_) := by
  have H := wp.impl_AftersOf.math xs0 x1 hp
  have hB := Ext.refl w
  refine impl_AftersOf.start ?_
  unfold impl_AftersOf.vc
  unfold wp.impl_AftersOf at H
  refine buildOwn el3 ([] : List Int) (fun _ => by kernel_rfl) rfl (fun A21 w22 P2 e23 => ?_)
  have O2 := P2.mono hB.size
  have hB := ethen hB e23
  obtain ⟨J29, ⟨m56, hJ55⟩, hS30⟩ := H
  refine ⟨fun m_ z_ w_ => ∃ (xs24 : List Int) (i27 : Int) (A25 : Option Addr) (c26 : Nat), z_ = ((A25, xs24.length, c26), i27, ()) ∧ J29 m_ (xs24, i27, ()) ∧ Ext w w_ ∧ Own el3 w_ w.heap.size A25 c26 xs24, ⟨m56, ([] : List Int), 0, A21, 0, rfl, hJ55, hB, O2⟩, ?_⟩
  rintro m28 _ w32 ⟨xs24, i27, A25, c26, rfl, hJ57, hB, O3⟩
  have H := hS30 m28 _ hJ57
  clear hS30 hJ57
  try dsimp only at H ⊢
  refine bcase_mk (fun hc53 => ?_) (fun hc53 => ?_)
  · have H := (bcase_iff.1 H).1 hc53
    obtain ⟨hp35, H⟩ := H
    obtain ⟨r33, hr34⟩ : ∃ r_, r_ = M.impl_IsAfter xs0 x1 i27 := ⟨_, rfl⟩
    have H := H r33 hr34
    refine (impl_IsAfter.con hp35 hr34 (R0.ext hB) hc0).mono ?_
    rintro _ w36 ⟨rfl, e37⟩
    have O3 := O3.ext e37
    have hB := ethen hB e37
    refine ⟨r33, rfl, ?_⟩
    refine bcase_mk (fun hc52 => ?_) (fun hc52 => ?_)
    · have H := (bcase_iff.1 H).1 hc52
      refine buildOwn el3 ([i27] : List Int) (fun _ => by kernel_rfl) rfl (fun A38 w39 P4 e40 => ?_)
      have N3_4 := Own.apart2_new O3 P4 (Nat.le_refl _)
      have O3 := O3.ext e40
      have O4 := P4.mono hB.size
      have hB := ethen hB e40
      obtain ⟨hl45, H⟩ := H
      refine appOwn slt24 slt24.under O3 O4.row hB.size rfl (by first | rfl | omega | (simp; done) | (simp; omega)) hl45 (fun A41 c42 w43 P3 e44 => ?_)
      have N4_3_ := Apart2.app (N3_4).symm e44 O4
      have O4 := O4.app e44 (N3_4).symm
      have N4_3 := N4_3_
      have hB := eapp hB e44 O3
      have O3 := P3
      obtain ⟨m46, hm47, hJ48⟩ := H
      exact ⟨m46, hm47, (xs24 ++ ([i27] : List Int)), (IntKind.wrap .i64 (i27 + 1)), A41, c42, rfl, hJ48, hB, O3⟩
    · have H := (bcase_iff.1 H).2 hc52
      obtain ⟨m49, hm50, hJ51⟩ := H
      exact ⟨m49, hm50, xs24, (IntKind.wrap .i64 (i27 + 1)), A25, c26, rfl, hJ51, hB, O3⟩
  · have H := (bcase_iff.1 H).2 hc53
    obtain rfl := hr.trans H.symm
    exact ⟨A25, c26, rfl, O3, hB⟩

def impl_FirstAfter_1.vc (x0 : Int) (p1 : Addr) (w : World) (K : Value → World → Prop) : Prop :=
  ∃ (n21 : Int), w.cell? (p1.add 0) = some (.int .i64 n21) ∧ K (.bool (x0 == n21)) w

def impl_FirstAfter_1.ann : Ann := (.seq .l (.seq .l .l))

theorem impl_FirstAfter_1.vc_eq (x0 : Int) (p1 : Addr) (w : World) (K : Value → World → Prop) : vcF Try.prog Try.f196 impl_FirstAfter_1.ann [(.int .i64 x0), (.pointer (some p1))] K w = impl_FirstAfter_1.vc x0 p1 w K := by kernel_rfl

theorem impl_FirstAfter_1.start {x0 : Int} {p1 : Addr} {w : World} {K : Value → World → Prop} (h : impl_FirstAfter_1.vc x0 p1 w K) : Cll Try.prog 196 #[(.int .i64 x0), (.pointer (some p1))] w K :=
  vcF_sound mixed (fn := Try.f196) (by kernel_rfl) (by kernel_rfl) (an := impl_FirstAfter_1.ann) (args := [(.int .i64 x0), (.pointer (some p1))]) (by rw [impl_FirstAfter_1.vc_eq]; exact h)

theorem impl_FirstAfter_1.con {x0 : Int} {x1 : Int} {g1_ : Nat} {r : Bool} {w : World} (hp : M.impl_FirstAfter_1_pre x0 x1) (hr : r = M.impl_FirstAfter_1 x0 x1) (O1 : Blk w g1_ 3 #[(.int .i64 x1)]) :
    Cll Try.prog 196 #[(.int .i64 x0), (.pointer (some (⟨g1_, 0, none⟩ : Addr)))] w (fun v_ w_ => v_ = (.bool r) ∧ Ext w w_) := by
  have H := wp.impl_FirstAfter_1.math x0 x1 hp
  have hB := Ext.refl w
  refine impl_FirstAfter_1.start ?_
  unfold impl_FirstAfter_1.vc
  unfold wp.impl_FirstAfter_1 at H
  refine ⟨_, (O1.at 0 rfl rfl), ?_⟩
  obtain rfl := hr.trans H.symm
  exact ⟨rfl, hB⟩

def slices_DeleteFunc_int_int.vc (A0 : Option Addr) (n0 : Nat) (c0 : Nat) (f1 : Nat) (cap1 : Array Value) (w : World) (K : Value → World → Prop) : Prop :=
  Cll Try.prog 132 #[(.slice A0 n0 c0), (.func (.func f1) #[] cap1)] w fun v21 w22 => (∃ (n23 : Int), v21 = (.int .i64 n23) ∧ bcase (n23 == (-1)) (K (.slice A0 n0 c0) w22) (LoopT (σ := Int × Int × Unit) (fun z24 w25 next26 => bcase (decide (z24.2.1 < ((n0 : Nat) : Int))) (((0 : Int) ≤ z24.2.1 ∧ z24.2.1 < ((n0 : Nat) : Int) ∧ ∃ a27 : Addr, A0 = some a27 ∧ ∃ (n28 : Int), w25.cell? ((a27.add ((z24.2.1.toNat) * 1)).add 0) = some (.int .i64 n28) ∧ Cll Try.prog f1 (#[(.int .i64 n28)] ++ cap1) w25 fun v29 w30 => (∃ (b31 : Bool), v29 = (.bool b31) ∧ bcase (!b31) (((0 : Int) ≤ z24.1 ∧ z24.1 < ((n0 : Nat) : Int) ∧ ∃ a32 : Addr, A0 = some a32 ∧ stCells (a32.add ((z24.1.toNat) * 1)) [(.int .i64 n28)] 0 w30 fun w33 => next26 ((IntKind.wrap .i64 (z24.1 + 1)), (IntKind.wrap .i64 (z24.2.1 + 1)), ()) w33)) (next26 (z24.1, (IntKind.wrap .i64 (z24.2.1 + 1)), ()) w30)))) (((0 : Int) ≤ z24.1 ∧ z24.1 ≤ ((n0 : Nat) : Int) ∧ Run Try.prog (Builtin.clear_ #[24] 0 #[(.slice (if c0 = (z24.1.toNat) then A0 else A0.map (·.add ((z24.1.toNat) * szOf Try.prog 3))) (n0 - (z24.1.toNat)) (c0 - (z24.1.toNat)))]) w25 fun v34 w35 => v34 = .tuple #[] ∧ ((0 : Int) ≤ z24.1 ∧ z24.1 ≤ ((c0 : Nat) : Int) ∧ K (.slice A0 (z24.1.toNat) c0) w35)))) (n23, (IntKind.wrap .i64 (n23 + 1)), ()) w22))

def slices_DeleteFunc_int_int.ann : Ann := (.seq .l (.seq .l (.seq (.seq .l (.two (.seq .l .l) .l)) (.seq (.seq .l (.one (.loop [(5, .int .i64), (6, .int .i64)] (.seq (.seq .l (.two .l .l)) (.seq (.one (.seq .l (.seq .l (.two (.seq .l .l) .l)))) .l))))) (.seq .l (.seq .l .l))))))

theorem slices_DeleteFunc_int_int.vc_eq (A0 : Option Addr) (n0 : Nat) (c0 : Nat) (f1 : Nat) (cap1 : Array Value) (w : World) (K : Value → World → Prop) : vcF Try.prog Try.f194 slices_DeleteFunc_int_int.ann [(.slice A0 n0 c0), (.func (.func f1) #[] cap1)] K w = slices_DeleteFunc_int_int.vc A0 n0 c0 f1 cap1 w K := by kernel_rfl

theorem slices_DeleteFunc_int_int.start {A0 : Option Addr} {n0 : Nat} {c0 : Nat} {f1 : Nat} {cap1 : Array Value} {w : World} {K : Value → World → Prop} (h : slices_DeleteFunc_int_int.vc A0 n0 c0 f1 cap1 w K) : Cll Try.prog 194 #[(.slice A0 n0 c0), (.func (.func f1) #[] cap1)] w K :=
  vcF_sound mixed (fn := Try.f194) (by kernel_rfl) (by kernel_rfl) (an := slices_DeleteFunc_int_int.ann) (args := [(.slice A0 n0 c0), (.func (.func f1) #[] cap1)]) (by rw [slices_DeleteFunc_int_int.vc_eq]; exact h)

theorem slices_DeleteFunc_int_int.con {xs0 : List Int} {A0 : Option Addr} {c0 : Nat} {f1 : Nat} {cap1 : Array Value} {g1 : Int → Bool} {D1 : Int → Prop} {r : List Int} {w : World} (hp : M.slices_DeleteFunc_int_int_pre xs0 g1 D1) (hr : r = M.slices_DeleteFunc_int_int xs0 g1) (O1 : Own el3 w 0 A0 c0 xs0) (F1 : ∀ (z0_ : Int), D1 z0_ → ∀ w_ : World, Chg (InB A0) w w_ → Cll Try.prog f1 (#[(.int .i64 z0_)] ++ cap1) w_ (fun v_ w1_ => v_ = (.bool (g1 z0_)) ∧ Ext w_ w1_)) :
    Cll Try.prog 194 #[(.slice A0 xs0.length c0), (.func (.func f1) #[] cap1)] w (fun v_ w_ => ∃ (A0_ : Option Addr) (c0_ : Nat), v_ = (.slice A0_ r.length c0_) ∧ Own el3 w_ 0 A0_ c0_ r ∧ Mov w A0 A0_ ∧ Chg (InB A0) w w_) := by
  have H := wp.slices_DeleteFunc_int_int.math xs0 g1 D1 hp
  have hB := Chg.refl (InB A0) w
  refine slices_DeleteFunc_int_int.start ?_
  unfold slices_DeleteFunc_int_int.vc
  unfold wp.slices_DeleteFunc_int_int at H
  obtain ⟨hp23, H⟩ := H
  obtain ⟨r21, hr22⟩ : ∃ r_, r_ = M.slices_IndexFunc_int_int xs0 g1 := ⟨_, rfl⟩
  have H := H r21 hr22
  refine (slices_IndexFunc_int_int.con hp23 hr22 O1.row O1.le (fun z0_  h_ w_ e_ => F1 z0_  h_ w_ (hB.then e_))).mono ?_
  rintro _ w24 ⟨rfl, e25⟩
  have O1 := O1.ext e25
  have hB := hB.then e25
  refine ⟨r21, rfl, ?_⟩
  refine bcase_mk (fun hc96 => ?_) (fun hc96 => ?_)
  · have H := (bcase_iff.1 H).1 hc96
    obtain rfl := hr.trans H.symm
    exact ⟨A0, c0, rfl, (O1.mono (Nat.zero_le _)), (Mov.same _ _), hB⟩
  · have H := (bcase_iff.1 H).2 hc96
    obtain ⟨J56, ⟨m94, hJ93⟩, hS57⟩ := H
    refine ⟨fun m_ z_ w_ => ∃ (i51 : Int) (i52 : Int) (xs53 : List Int), z_ = (i51, i52, ()) ∧ J56 m_ (i51, i52, xs53, ()) ∧ Chg (InB A0) w w_ ∧ Own el3 w_ 0 A0 c0 xs53 ∧ xs0.length = xs53.length, ⟨m94, r21, (IntKind.wrap .i64 (r21 + 1)), xs0, rfl, hJ93, hB, O1, (by first | rfl | assumption | (simp; done) | (simp; omega) | (simp; assumption))⟩, ?_⟩
    rintro m55 _ w59 ⟨i51, i52, xs53, rfl, hJ95, hB, O1, hn54⟩
    have H := hS57 m55 _ hJ95
    clear hS57 hJ95
    try dsimp only at H ⊢
    refine bcase_mk (fun hc91 => ?_) (fun hc91 => ?_)
    · have H := (bcase_iff.1 H).1 hc91
      obtain ⟨⟨h0_63, h1_64⟩, H⟩ := H
      obtain ⟨a61, ha62, hat60⟩ := Row.at O1.row h0_63 h1_64
      refine ⟨h0_63, (by first | exact h1_64 | omega | (simp at h1_64 ⊢; omega)), a61, ha62, ?_⟩
      refine ⟨_, (hat60 0 _ rfl), ?_⟩
      obtain ⟨hd67, H⟩ := H
      obtain ⟨r65, hr66⟩ : ∃ r_, r_ = g1 (rd xs53 i52) := ⟨_, rfl⟩
      have H := H r65 hr66
      refine (F1 (rd xs53 i52) hd67 _ hB).mono ?_
      rintro _ w68 ⟨rfl, e69⟩
      rw [← hr66]
      have O1 := O1.ext e69
      have hB := hB.then e69
      refine ⟨r65, rfl, ?_⟩
      refine bcase_mk (fun hc84 => ?_) (fun hc84 => ?_)
      · have H := (bcase_iff.1 H).1 hc84
        obtain ⟨⟨h0_73, h1_74⟩, H⟩ := H
        obtain ⟨a71, ha72, hat70⟩ := Row.at O1.row h0_73 h1_74
        refine ⟨h0_73, (by first | exact h1_74 | omega | (simp at h1_74 ⊢; omega)), a71, ha72, ?_⟩
        refine Own.storeAt O1 ha72 h0_73 h1_74 0 [(.int .i64 (rd xs53 i52))] (rd xs53 i52) rfl (Nat.le_of_ble_eq_true rfl) rfl (fun w75 P1 e76 hb77 => ?_)
        have hB := hB.chgb e76 (Or.inr ⟨_, ha72, rfl⟩)
        have O1 := P1
        obtain ⟨m78, hm79, hJ80⟩ := H
        exact ⟨m78, hm79, (IntKind.wrap .i64 (i51 + 1)), (IntKind.wrap .i64 (i52 + 1)), (List.set xs53 (i51.toNat) (rd xs53 i52)), rfl, hJ80, hB, O1, (by first | rfl | assumption | (simp; done) | (simp; omega) | (simp; assumption))⟩
      · have H := (bcase_iff.1 H).2 hc84
        obtain ⟨m81, hm82, hJ83⟩ := H
        exact ⟨m81, hm82, i51, (IntKind.wrap .i64 (i52 + 1)), xs53, rfl, hJ83, hB, O1, (by first | rfl | assumption | (simp; done) | (simp; omega) | (simp; assumption))⟩
    · have H := (bcase_iff.1 H).2 hc91
      obtain ⟨⟨hl85, hl86⟩, H⟩ := H
      refine and_assoc.1 ⟨⟨hl85, (by first | exact hl86 | omega)⟩, ?_⟩
      rw [show (xs0.length - (i51.toNat)) = ((List.drop (i51.toNat) xs53)).length from by first | rfl | (simp; done) | (simp; omega)]
      have O2 := (O1.drop (l := (i51.toNat)) (by first | omega | (simp; done) | (simp; omega)))
      refine clearCut slt24 O1 (l := (i51.toNat)) (by first | omega | (simp; omega)) (by first | rfl | (simp; done) | (simp; omega)) (fun w87 P1 e88 => ?_)
      have hB := hB.app e88 (fun g h_ => Or.inr h_)
      have O1 := P1
      obtain ⟨⟨hh89, hh90⟩, H⟩ := H
      refine and_assoc.1 ⟨⟨hh89, Int.le_trans hh90 (Int.ofNat_le.2 O1.le)⟩, ?_⟩
      rw [show (i51.toNat) = ((List.take (i51.toNat) (List.take (i51.toNat) xs53 ++ List.replicate (xs53.length - (i51.toNat)) default))).length from by first | rfl | (simp; done) | (simp; omega)]
      have O3 := (O1.take (i51.toNat))
      obtain rfl := hr.trans H.symm
      exact ⟨A0, c0, rfl, (O3.mono (Nat.zero_le _)), (Mov.same _ _), hB⟩

def impl_firstOf_1.vc (x0 : Int) (p1 : Addr) (p2 : Addr) (w : World) (K : Value → World → Prop) : Prop :=
  ∃ (A21 : Option Addr) (n22 : Nat) (c23 : Nat), w.cell? (p1.add 0) = some (.slice A21 n22 c23) ∧ ∃ (n24 : Int), w.cell? (p2.add 0) = some (.int .i64 n24) ∧ Cll Try.prog 215 #[(.slice A21 n22 c23), (.int .i64 n24), (.int .i64 x0)] w fun v25 w26 => (∃ (b27 : Bool), v25 = (.bool b27) ∧ K (.bool (!b27)) w26)

def impl_firstOf_1.ann : Ann := (.seq .l (.seq .l .l))

theorem impl_firstOf_1.vc_eq (x0 : Int) (p1 : Addr) (p2 : Addr) (w : World) (K : Value → World → Prop) : vcF Try.prog Try.f214 impl_firstOf_1.ann [(.int .i64 x0), (.pointer (some p1)), (.pointer (some p2))] K w = impl_firstOf_1.vc x0 p1 p2 w K := by kernel_rfl

theorem impl_firstOf_1.start {x0 : Int} {p1 : Addr} {p2 : Addr} {w : World} {K : Value → World → Prop} (h : impl_firstOf_1.vc x0 p1 p2 w K) : Cll Try.prog 214 #[(.int .i64 x0), (.pointer (some p1)), (.pointer (some p2))] w K :=
  vcF_sound mixed (fn := Try.f214) (by kernel_rfl) (by kernel_rfl) (an := impl_firstOf_1.ann) (args := [(.int .i64 x0), (.pointer (some p1)), (.pointer (some p2))]) (by rw [impl_firstOf_1.vc_eq]; exact h)

theorem impl_firstOf_1.con {x0 : Int} {xs1 : List D.Ins} {x2 : Int} {g1_ : Nat} {A1_0 : Option Addr} {c1_0 : Nat} {g3_ : Nat} {r : Bool} {w : World} (hp : M.impl_firstOf_1_pre x0 xs1 x2) (hr : r = M.impl_firstOf_1 x0 xs1 x2) (O1 : Blk w g1_ 29 #[(.slice A1_0 xs1.length c1_0)]) (R1_0 : Row el76 w A1_0 xs1) (hc1_0 : xs1.length ≤ c1_0) (O3 : Blk w g3_ 3 #[(.int .i64 x2)]) :
    Cll Try.prog 214 #[(.int .i64 x0), (.pointer (some (⟨g1_, 0, none⟩ : Addr))), (.pointer (some (⟨g3_, 0, none⟩ : Addr)))] w (fun v_ w_ => v_ = (.bool r) ∧ Ext w w_) := by
  have H := wp.impl_firstOf_1.math x0 xs1 x2 hp
  have hB := Ext.refl w
  refine impl_firstOf_1.start ?_
  unfold impl_firstOf_1.vc
  unfold wp.impl_firstOf_1 at H
  refine ⟨_, _, _, (O1.at 0 rfl rfl), ?_⟩
  refine ⟨_, (O3.at 0 rfl rfl), ?_⟩
  obtain ⟨hp23, H⟩ := H
  obtain ⟨r21, hr22⟩ : ∃ r_, r_ = M.impl_isAfter xs1 x2 x0 := ⟨_, rfl⟩
  have H := H r21 hr22
  refine (impl_isAfter.con hp23 hr22 (R1_0.ext hB) hc1_0).mono ?_
  rintro _ w24 ⟨rfl, e25⟩
  have O1 := O1.ext e25
  have O3 := O3.ext e25
  have hB := ethen hB e25
  refine ⟨r21, rfl, ?_⟩
  obtain rfl := hr.trans H.symm
  exact ⟨rfl, hB⟩

def impl_firstOf.vc (A0 : Option Addr) (n0 : Nat) (c0 : Nat) (A1 : Option Addr) (n1 : Nat) (c1 : Nat) (w : World) (K : Value → World → Prop) : Prop :=
  newK w (.cells #[(.slice A0 n0 c0)] 29) fun g21 w22 => LoopT (σ := Int × Unit) (fun z23 w24 next25 => bcase (decide (z23.1 < ((n1 : Nat) : Int))) (((0 : Int) ≤ z23.1 ∧ z23.1 < ((n1 : Nat) : Int) ∧ ∃ a26 : Addr, A1 = some a26 ∧ ∃ (n27 : Int), w24.cell? ((a26.add ((z23.1.toNat) * 1)).add 0) = some (.int .i64 n27) ∧ newK w24 (.cells #[(.int .i64 0)] 3) fun g28 w29 => stCells (⟨g28, 0, none⟩ : Addr) [(.int .i64 n27)] 0 w29 fun w30 => Cll Try.prog 77 #[(.slice A1 n1 c1), (.func (.func 214) #[] #[(.pointer (some (⟨g21, 0, none⟩ : Addr))), (.pointer (some (⟨g28, 0, none⟩ : Addr)))])] w30 fun v31 w32 => (∃ (b33 : Bool), v31 = (.bool b33) ∧ bcase (!b33) (∃ (n34 : Int), w32.cell? ((⟨g28, 0, none⟩ : Addr).add 0) = some (.int .i64 n34) ∧ K (.int .i64 n34) w32) (next25 ((IntKind.wrap .i64 (z23.1 + 1)), ()) w32)))) (K (.int .i64 (-1)) w24)) (0, ()) w22

def impl_firstOf.ann : Ann := (.seq .l (.seq (.seq .l (.one (.loop [(9, .int .i64)] (.seq .l (.seq (.two .l .l) (.seq (.one (.seq .l (.seq .l (.two (.seq .l .l) .l)))) .l)))))) (.seq .l .l)))

theorem impl_firstOf.vc_eq (A0 : Option Addr) (n0 : Nat) (c0 : Nat) (A1 : Option Addr) (n1 : Nat) (c1 : Nat) (w : World) (K : Value → World → Prop) : vcF Try.prog Try.f193 impl_firstOf.ann [(.slice A0 n0 c0), (.slice A1 n1 c1)] K w = impl_firstOf.vc A0 n0 c0 A1 n1 c1 w K := by kernel_rfl

theorem impl_firstOf.start {A0 : Option Addr} {n0 : Nat} {c0 : Nat} {A1 : Option Addr} {n1 : Nat} {c1 : Nat} {w : World} {K : Value → World → Prop} (h : impl_firstOf.vc A0 n0 c0 A1 n1 c1 w K) : Cll Try.prog 193 #[(.slice A0 n0 c0), (.slice A1 n1 c1)] w K :=
  vcF_sound mixed (fn := Try.f193) (by kernel_rfl) (by kernel_rfl) (an := impl_firstOf.ann) (args := [(.slice A0 n0 c0), (.slice A1 n1 c1)]) (by rw [impl_firstOf.vc_eq]; exact h)

theorem impl_firstOf.con {xs0 : List D.Ins} {A0 : Option Addr} {c0 : Nat} {xs1 : List Int} {A1 : Option Addr} {c1 : Nat} {r : Int} {w : World} (hp : M.impl_firstOf_pre xs0 xs1) (hr : r = M.impl_firstOf xs0 xs1) (R0 : Row el76 w A0 xs0) (hc0 : xs0.length ≤ c0) (R1 : Row el3 w A1 xs1) (hc1 : xs1.length ≤ c1) :
    Cll Try.prog 193 #[(.slice A0 xs0.length c0), (.slice A1 xs1.length c1)] w (fun v_ w_ => v_ = (.int .i64 r) ∧ Ext w w_) := by
  have H := wp.impl_firstOf.math xs0 xs1 hp
  have hB := Ext.refl w
  refine impl_firstOf.start ?_
  unfold impl_firstOf.vc
  unfold wp.impl_firstOf at H
  refine newBlk (fun g3_ w21 L3 P3 e22 => ?_)
  have O3 := P3
  have L3 := Nat.le_trans hB.size L3
  have hB := ethen hB e22
  obtain ⟨J25, ⟨m50, hJ49⟩, hS26⟩ := H
  refine ⟨fun m_ z_ w_ => ∃ (i23 : Int), z_ = (i23, ()) ∧ J25 m_ (i23, ()) ∧ Ext w w_ ∧ Blk w_ g3_ 29 #[(.slice A0 xs0.length c0)], ⟨m50, 0, rfl, hJ49, hB, O3⟩, ?_⟩
  rintro m24 _ w28 ⟨i23, rfl, hJ51, hB, O3⟩
  have H := hS26 m24 _ hJ51
  clear hS26 hJ51
  try dsimp only at H ⊢
  refine bcase_mk (fun hc47 => ?_) (fun hc47 => ?_)
  · have H := (bcase_iff.1 H).1 hc47
    obtain ⟨⟨h0_32, h1_33⟩, H⟩ := H
    obtain ⟨a30, ha31, hat29⟩ := Row.at (R1.ext hB) h0_32 h1_33
    refine ⟨h0_32, h1_33, a30, ha31, ?_⟩
    refine ⟨_, (hat29 0 _ rfl), ?_⟩
    refine newBlk (fun g4_ w34 L4 P4 e35 => ?_)
    have N3_4 := O3.ne L4
    have O3 := O3.ext e35
    have O4 := P4
    have L4 := Nat.le_trans hB.size L4
    have hB := ethen hB e35
    refine stBlk O4 (o := 0) (cs' := #[(.int .i64 (rd xs1 i23))]) rfl rfl (Nat.le_of_ble_eq_true rfl) rfl (fun w36 P4 e37 => ?_)
    have O3_ := O3.chg e37 N3_4
    have O3 := O3_
    have hB := echg hB e37 L4
    have O4 := P4
    obtain ⟨hp40, H⟩ := H
    obtain ⟨r38, hr39⟩ : ∃ r_, r_ = M.slices_ContainsFunc_int_int xs1 (fun z0_ => M.impl_firstOf_1 z0_ xs0 (rd xs1 i23)) := ⟨_, rfl⟩
    have H := H r38 hr39
    refine (slices_ContainsFunc_int_int.con hp40 hr39 (R1.ext hB) hc1 (fun z0_ h_ w_ e_ => cllApp (l1 := [_]) (l2 := [_, _]) (impl_firstOf_1.con h_ rfl (O3.ext e_) (R0.ext (ethen hB e_)) hc0 (O4.ext e_)))).mono ?_
    rintro _ w41 ⟨rfl, e42⟩
    have O3 := O3.ext e42
    have O4 := O4.ext e42
    have hB := ethen hB e42
    refine ⟨r38, rfl, ?_⟩
    refine bcase_mk (fun hc46 => ?_) (fun hc46 => ?_)
    · have H := (bcase_iff.1 H).1 hc46
      refine ⟨_, (O4.at 0 rfl rfl), ?_⟩
      obtain rfl := hr.trans H.symm
      exact ⟨rfl, hB⟩
    · have H := (bcase_iff.1 H).2 hc46
      obtain ⟨m43, hm44, hJ45⟩ := H
      exact ⟨m43, hm44, (IntKind.wrap .i64 (i23 + 1)), rfl, hJ45, hB, O3⟩
  · have H := (bcase_iff.1 H).2 hc47
    obtain rfl := hr.trans H.symm
    exact ⟨rfl, hB⟩

def impl_FirstAfter.vc (A0 : Option Addr) (n0 : Nat) (c0 : Nat) (x1 : Int) (w : World) (K : Value → World → Prop) : Prop :=
  newK w (.cells #[(.int .i64 x1)] 3) fun g21 w22 => ∃ (n23 : Int), w22.cell? ((⟨g21, 0, none⟩ : Addr).add 0) = some (.int .i64 n23) ∧ Cll Try.prog 195 #[(.slice A0 n0 c0), (.int .i64 n23)] w22 fun v24 w25 => (∃ (A26 : Option Addr) (n27 : Nat) (c28 : Nat), v24 = (.slice A26 n27 c28) ∧ Cll Try.prog 194 #[(.slice A26 n27 c28), (.func (.func 196) #[] #[(.pointer (some (⟨g21, 0, none⟩ : Addr)))])] w25 fun v29 w30 => (∃ (A31 : Option Addr) (n32 : Nat) (c33 : Nat), v29 = (.slice A31 n32 c33) ∧ Cll Try.prog 193 #[(.slice A0 n0 c0), (.slice A31 n32 c33)] w30 fun v34 w35 => (∃ (n36 : Int), v34 = (.int .i64 n36) ∧ K (.int .i64 n36) w35)))

def impl_FirstAfter.ann : Ann := (.seq .l (.seq .l .l))

theorem impl_FirstAfter.vc_eq (A0 : Option Addr) (n0 : Nat) (c0 : Nat) (x1 : Int) (w : World) (K : Value → World → Prop) : vcF Try.prog Try.f174 impl_FirstAfter.ann [(.slice A0 n0 c0), (.int .i64 x1)] K w = impl_FirstAfter.vc A0 n0 c0 x1 w K := by kernel_rfl

theorem impl_FirstAfter.start {A0 : Option Addr} {n0 : Nat} {c0 : Nat} {x1 : Int} {w : World} {K : Value → World → Prop} (h : impl_FirstAfter.vc A0 n0 c0 x1 w K) : Cll Try.prog 174 #[(.slice A0 n0 c0), (.int .i64 x1)] w K :=
  vcF_sound mixed (fn := Try.f174) (by kernel_rfl) (by kernel_rfl) (an := impl_FirstAfter.ann) (args := [(.slice A0 n0 c0), (.int .i64 x1)]) (by rw [impl_FirstAfter.vc_eq]; exact h)

theorem impl_FirstAfter.con {xs0 : List D.Ins} {A0 : Option Addr} {c0 : Nat} {x1 : Int} {r : Int} {w : World} (hp : M.impl_FirstAfter_pre xs0 x1) (hr : r = M.impl_FirstAfter xs0 x1) (R0 : Row el76 w A0 xs0) (hc0 : xs0.length ≤ c0) :
    Cll Try.prog 174 #[(.slice A0 xs0.length c0), (.int .i64 x1)] w (fun v_ w_ => v_ = (.int .i64 r) ∧ Ext w w_) := by
  have H := wp.impl_FirstAfter.math xs0 x1 hp
  have hB := Ext.refl w
  refine impl_FirstAfter.start ?_
  unfold impl_FirstAfter.vc
  unfold wp.impl_FirstAfter at H
  refine newBlk (fun g2_ w21 L2 P2 e22 => ?_)
  have O2 := P2
  have L2 := Nat.le_trans hB.size L2
  have hB := ethen hB e22
  refine ⟨_, (O2.at 0 rfl rfl), ?_⟩
  obtain ⟨hp25, H⟩ := H
  obtain ⟨r23, hr24⟩ : ∃ r_, r_ = M.impl_AftersOf xs0 x1 := ⟨_, rfl⟩
  have H := H r23 hr24
  refine (impl_AftersOf.con hp25 hr24 (R0.ext hB) hc0).mono ?_
  rintro _ w26 ⟨A28, c29, rfl, P3, e27⟩
  have N3_2 := P3.apart_old O2.lt
  have O2 := O2.ext e27
  have O3 := P3.mono hB.size
  have hB := ethen hB e27
  refine ⟨A28, r23.length, c29, rfl, ?_⟩
  obtain ⟨hp32, H⟩ := H
  obtain ⟨r30, hr31⟩ : ∃ r_, r_ = M.slices_DeleteFunc_int_int r23 (fun z0_ => M.impl_FirstAfter_1 z0_ x1) := ⟨_, rfl⟩
  have H := H r30 hr31
  refine (slices_DeleteFunc_int_int.con hp32 hr31 (O3.mono (Nat.zero_le _)) (fun z0_ h_ w_ e_ => cllApp (l1 := [_]) (l2 := [_]) (impl_FirstAfter_1.con h_ rfl (O2.chgS e_ (N3_2).inb)))).mono ?_
  rintro _ w33 ⟨A35, c36, rfl, P4, Mv4, e34⟩
  have N4_2 := Apart.mov N3_2 Mv4 O2.lt
  have Lw4 := Mv4.low O3.low hB.size
  have O2 := O2.chgS e34 (N3_2).inb
  have hB := Chg.ext hB e34 O3.low
  have O4 := P4.lift Lw4
  refine ⟨A35, r30.length, c36, rfl, ?_⟩
  obtain ⟨hp39, H⟩ := H
  obtain ⟨r37, hr38⟩ : ∃ r_, r_ = M.impl_firstOf xs0 r30 := ⟨_, rfl⟩
  have H := H r37 hr38
  refine (impl_firstOf.con hp39 hr38 (R0.ext hB) hc0 O4.row O4.le).mono ?_
  rintro _ w40 ⟨rfl, e41⟩
  have O2 := O2.ext e41
  have O4 := O4.ext e41
  have hB := ethen hB e41
  refine ⟨r37, rfl, ?_⟩
  obtain rfl := hr.trans H.symm
  exact ⟨rfl, hB⟩

def impl_JoinOf.vc (A0 : Option Addr) (n0 : Nat) (c0 : Nat) (x1 : Int) (w : World) (K : Value → World → Prop) : Prop :=
  Cll Try.prog 133 #[(.slice A0 n0 c0), (.int .i64 x1)] w fun v21 w22 => (∃ (b23 : Bool), v21 = (.bool b23) ∧ bcase (!b23) (K (.int .i64 (-1)) w22) (Cll Try.prog 91 #[(.slice A0 n0 c0), (.int .i64 x1)] w22 fun v24 w25 => (∃ (A26 : Option Addr) (n27 : Nat) (c28 : Nat), v24 = (.slice A26 n27 c28) ∧ LoopT (σ := Int × Unit) (fun z29 w30 next31 => bcase (decide (z29.1 < ((n27 : Nat) : Int))) (((0 : Int) ≤ z29.1 ∧ z29.1 < ((n27 : Nat) : Int) ∧ ∃ a32 : Addr, A26 = some a32 ∧ ∃ (n33 : Int), w30.cell? ((a32.add ((z29.1.toNat) * 1)).add 0) = some (.int .i64 n33) ∧ Cll Try.prog 173 #[(.slice A0 n0 c0), (.int .i64 n33)] w30 fun v34 w35 => (∃ (b36 : Bool), v34 = (.bool b36) ∧ bcase (!b36) (K (.int .i64 ((n0 : Nat) : Int)) w35) (next31 ((IntKind.wrap .i64 (z29.1 + 1)), ()) w35)))) (Cll Try.prog 174 #[(.slice A0 n0 c0), (.int .i64 x1)] w30 fun v37 w38 => (∃ (n39 : Int), v37 = (.int .i64 n39) ∧ K (.int .i64 n39) w38))) (0, ()) w25)))

def impl_JoinOf.ann : Ann := (.seq .l (.seq (.seq .l (.two (.seq .l .l) .l)) (.seq (.seq .l (.one (.loop [(15, .int .i64)] (.seq .l (.seq (.two .l .l) (.seq (.one (.seq .l (.seq .l (.two (.seq .l .l) .l)))) .l)))))) (.seq .l .l))))

theorem impl_JoinOf.vc_eq (A0 : Option Addr) (n0 : Nat) (c0 : Nat) (x1 : Int) (w : World) (K : Value → World → Prop) : vcF Try.prog Try.f135 impl_JoinOf.ann [(.slice A0 n0 c0), (.int .i64 x1)] K w = impl_JoinOf.vc A0 n0 c0 x1 w K := by kernel_rfl

theorem impl_JoinOf.start {A0 : Option Addr} {n0 : Nat} {c0 : Nat} {x1 : Int} {w : World} {K : Value → World → Prop} (h : impl_JoinOf.vc A0 n0 c0 x1 w K) : Cll Try.prog 135 #[(.slice A0 n0 c0), (.int .i64 x1)] w K :=
  vcF_sound mixed (fn := Try.f135) (by kernel_rfl) (by kernel_rfl) (an := impl_JoinOf.ann) (args := [(.slice A0 n0 c0), (.int .i64 x1)]) (by rw [impl_JoinOf.vc_eq]; exact h)

theorem impl_JoinOf.con {xs0 : List D.Ins} {A0 : Option Addr} {c0 : Nat} {x1 : Int} {r : Int} {w : World} (hp : M.impl_JoinOf_pre xs0 x1) (hr : r = M.impl_JoinOf xs0 x1) (R0 : Row el76 w A0 xs0) (hc0 : xs0.length ≤ c0) :
    Cll Try.prog 135 #[(.slice A0 xs0.length c0), (.int .i64 x1)] w (fun v_ w_ => v_ = (.int .i64 r) ∧ Ext w w_) := by
  have H := wp.impl_JoinOf.math xs0 x1 hp
  have hB := Ext.refl w
  refine impl_JoinOf.start ?_
  unfold impl_JoinOf.vc
  unfold wp.impl_JoinOf at H
  obtain ⟨hp23, H⟩ := H
  obtain ⟨r21, hr22⟩ : ∃ r_, r_ = M.impl_isBranch xs0 x1 := ⟨_, rfl⟩
  have H := H r21 hr22
  refine (impl_isBranch.con hp23 hr22 (R0.ext hB) hc0).mono ?_
  rintro _ w24 ⟨rfl, e25⟩
  have hB := ethen hB e25
  refine ⟨r21, rfl, ?_⟩
  refine bcase_mk (fun hc63 => ?_) (fun hc63 => ?_)
  · have H := (bcase_iff.1 H).1 hc63
    obtain rfl := hr.trans H.symm
    exact ⟨rfl, hB⟩
  · have H := (bcase_iff.1 H).2 hc63
    obtain ⟨hp28, H⟩ := H
    obtain ⟨r26, hr27⟩ : ∃ r_, r_ = M.impl_next xs0 x1 := ⟨_, rfl⟩
    have H := H r26 hr27
    refine (impl_next.con hp28 hr27 (R0.ext hB) hc0).mono ?_
    rintro _ w29 ⟨A31, c32, rfl, P2, e30⟩
    have O2 := P2.mono hB.size
    have hB := ethen hB e30
    refine ⟨A31, r26.length, c32, rfl, ?_⟩
    obtain ⟨J35, ⟨m61, hJ60⟩, hS36⟩ := H
    refine ⟨fun m_ z_ w_ => ∃ (i33 : Int), z_ = (i33, ()) ∧ J35 m_ (i33, ()) ∧ Ext w w_ ∧ Own el3 w_ w.heap.size A31 c32 r26, ⟨m61, 0, rfl, hJ60, hB, O2⟩, ?_⟩
    rintro m34 _ w38 ⟨i33, rfl, hJ62, hB, O2⟩
    have H := hS36 m34 _ hJ62
    clear hS36 hJ62
    try dsimp only at H ⊢
    refine bcase_mk (fun hc58 => ?_) (fun hc58 => ?_)
    · have H := (bcase_iff.1 H).1 hc58
      obtain ⟨⟨h0_42, h1_43⟩, H⟩ := H
      obtain ⟨a40, ha41, hat39⟩ := Row.at O2.row h0_42 h1_43
      refine ⟨h0_42, h1_43, a40, ha41, ?_⟩
      refine ⟨_, (hat39 0 _ rfl), ?_⟩
      obtain ⟨hp46, H⟩ := H
      obtain ⟨r44, hr45⟩ : ∃ r_, r_ = M.impl_reachesExit xs0 (rd r26 i33) := ⟨_, rfl⟩
      have H := H r44 hr45
      refine (impl_reachesExit.con hp46 hr45 (R0.ext hB) hc0).mono ?_
      rintro _ w47 ⟨rfl, e48⟩
      have O2 := O2.ext e48
      have hB := ethen hB e48
      refine ⟨r44, rfl, ?_⟩
      refine bcase_mk (fun hc52 => ?_) (fun hc52 => ?_)
      · have H := (bcase_iff.1 H).1 hc52
        obtain rfl := hr.trans H.symm
        exact ⟨rfl, hB⟩
      · have H := (bcase_iff.1 H).2 hc52
        obtain ⟨m49, hm50, hJ51⟩ := H
        exact ⟨m49, hm50, (IntKind.wrap .i64 (i33 + 1)), rfl, hJ51, hB, O2⟩
    · have H := (bcase_iff.1 H).2 hc58
      obtain ⟨hp55, H⟩ := H
      obtain ⟨r53, hr54⟩ : ∃ r_, r_ = M.impl_FirstAfter xs0 x1 := ⟨_, rfl⟩
      have H := H r53 hr54
      refine (impl_FirstAfter.con hp55 hr54 (R0.ext hB) hc0).mono ?_
      rintro _ w56 ⟨rfl, e57⟩
      have O2 := O2.ext e57
      have hB := ethen hB e57
      refine ⟨r53, rfl, ?_⟩
      obtain rfl := hr.trans H.symm
      exact ⟨rfl, hB⟩

def impl_trues.vc (A0 : Option Addr) (n0 : Nat) (c0 : Nat) (w : World) (K : Value → World → Prop) : Prop :=
  Run Try.prog (Instr.buildSlice 24 0 #[]) w fun v21 w22 => ∃ (A23 : Option Addr) (n24 c25 : Nat), v21 = .slice A23 n24 c25 ∧ LoopT (σ := (Option Addr × Nat × Nat) × Int × Unit) (fun z26 w27 next28 => bcase (decide (z26.2.1 < ((n0 : Nat) : Int))) (((0 : Int) ≤ z26.2.1 ∧ z26.2.1 < ((n0 : Nat) : Int) ∧ ∃ a29 : Addr, A0 = some a29 ∧ ∃ (b30 : Bool), w27.cell? ((a29.add ((z26.2.1.toNat) * 1)).add 0) = some (.bool b30) ∧ bcase b30 (Run Try.prog (Instr.buildSlice 24 1 #[(0, (.int .i64 z26.2.1))]) w27 fun v31 w32 => ∃ (A33 : Option Addr) (n34 c35 : Nat), v31 = .slice A33 n34 c35 ∧ Run Try.prog (Builtin.append_ #[24, 24] 24 #[(.slice z26.1.1 z26.1.2.1 z26.1.2.2), (.slice A33 n34 c35)]) w32 fun v36 w37 => ∃ (A38 : Option Addr) (n39 c40 : Nat), v36 = .slice A38 n39 c40 ∧ next28 ((A38, n39, c40), (IntKind.wrap .i64 (z26.2.1 + 1)), ()) w37) (next28 ((z26.1.1, z26.1.2.1, z26.1.2.2), (IntKind.wrap .i64 (z26.2.1 + 1)), ()) w27))) (K (.slice z26.1.1 z26.1.2.1 z26.1.2.2) w27)) ((A23, n24, c25), 0, ()) w22

def impl_trues.ann : Ann := (.seq .l (.seq .l (.seq (.seq .l (.one (.loop [(3, .sl), (9, .int .i64)] (.seq .l (.seq (.two .l .l) (.seq (.one (.seq .l (.seq .l (.two .l .l)))) .l)))))) (.seq .l .l))))

theorem impl_trues.vc_eq (A0 : Option Addr) (n0 : Nat) (c0 : Nat) (w : World) (K : Value → World → Prop) : vcF Try.prog Try.f134 impl_trues.ann [(.slice A0 n0 c0)] K w = impl_trues.vc A0 n0 c0 w K := by kernel_rfl

theorem impl_trues.start {A0 : Option Addr} {n0 : Nat} {c0 : Nat} {w : World} {K : Value → World → Prop} (h : impl_trues.vc A0 n0 c0 w K) : Cll Try.prog 134 #[(.slice A0 n0 c0)] w K :=
  vcF_sound mixed (fn := Try.f134) (by kernel_rfl) (by kernel_rfl) (an := impl_trues.ann) (args := [(.slice A0 n0 c0)]) (by rw [impl_trues.vc_eq]; exact h)

theorem impl_trues.con {xs0 : List Bool} {A0 : Option Addr} {c0 : Nat} {r : List Int} {w : World} (hp : M.impl_trues_pre xs0) (hr : r = M.impl_trues xs0) (R0 : Row el4 w A0 xs0) (hc0 : xs0.length ≤ c0) :
    Cll Try.prog 134 #[(.slice A0 xs0.length c0)] w (fun v_ w_ => ∃ (A0_ : Option Addr) (c0_ : Nat), v_ = (.slice A0_ r.length c0_) ∧ Own el3 w_ w.heap.size A0_ c0_ r ∧ Ext w w_) := by
  have H := wp.impl_trues.math xs0 hp
  have hB := Ext.refl w
  refine impl_trues.start ?_
  unfold impl_trues.vc
  unfold wp.impl_trues at H
  refine buildOwn el3 ([] : List Int) (fun _ => by kernel_rfl) rfl (fun A21 w22 P2 e23 => ?_)
  have O2 := P2.mono hB.size
  have hB := ethen hB e23
  obtain ⟨J29, ⟨m56, hJ55⟩, hS30⟩ := H
  refine ⟨fun m_ z_ w_ => ∃ (xs24 : List Int) (i27 : Int) (A25 : Option Addr) (c26 : Nat), z_ = ((A25, xs24.length, c26), i27, ()) ∧ J29 m_ (xs24, i27, ()) ∧ Ext w w_ ∧ Own el3 w_ w.heap.size A25 c26 xs24, ⟨m56, ([] : List Int), 0, A21, 0, rfl, hJ55, hB, O2⟩, ?_⟩
  rintro m28 _ w32 ⟨xs24, i27, A25, c26, rfl, hJ57, hB, O3⟩
  have H := hS30 m28 _ hJ57
  clear hS30 hJ57
  try dsimp only at H ⊢
  refine bcase_mk (fun hc53 => ?_) (fun hc53 => ?_)
  · have H := (bcase_iff.1 H).1 hc53
    obtain ⟨⟨h0_36, h1_37⟩, H⟩ := H
    obtain ⟨a34, ha35, hat33⟩ := Row.at (R0.ext hB) h0_36 h1_37
    refine ⟨h0_36, h1_37, a34, ha35, ?_⟩
    refine ⟨_, (hat33 0 _ rfl), ?_⟩
    refine bcase_mk (fun hc52 => ?_) (fun hc52 => ?_)
    · have H := (bcase_iff.1 H).1 hc52
      refine buildOwn el3 ([i27] : List Int) (fun _ => by kernel_rfl) rfl (fun A38 w39 P4 e40 => ?_)
      have N3_4 := Own.apart2_new O3 P4 (Nat.le_refl _)
      have O3 := O3.ext e40
      have O4 := P4.mono hB.size
      have hB := ethen hB e40
      obtain ⟨hl45, H⟩ := H
      refine appOwn slt24 slt24.under O3 O4.row hB.size rfl (by first | rfl | omega | (simp; done) | (simp; omega)) hl45 (fun A41 c42 w43 P3 e44 => ?_)
      have N4_3_ := Apart2.app (N3_4).symm e44 O4
      have O4 := O4.app e44 (N3_4).symm
      have N4_3 := N4_3_
      have hB := eapp hB e44 O3
      have O3 := P3
      obtain ⟨m46, hm47, hJ48⟩ := H
      exact ⟨m46, hm47, (xs24 ++ ([i27] : List Int)), (IntKind.wrap .i64 (i27 + 1)), A41, c42, rfl, hJ48, hB, O3⟩
    · have H := (bcase_iff.1 H).2 hc52
      obtain ⟨m49, hm50, hJ51⟩ := H
      exact ⟨m49, hm50, xs24, (IntKind.wrap .i64 (i27 + 1)), A25, c26, rfl, hJ51, hB, O3⟩
  · have H := (bcase_iff.1 H).2 hc53
    obtain rfl := hr.trans H.symm
    exact ⟨A25, c26, rfl, O3, hB⟩

def impl_InsideOf.vc (A0 : Option Addr) (n0 : Nat) (c0 : Nat) (x1 : Int) (w : World) (K : Value → World → Prop) : Prop :=
  Cll Try.prog 133 #[(.slice A0 n0 c0), (.int .i64 x1)] w fun v21 w22 => (∃ (b23 : Bool), v21 = (.bool b23) ∧ bcase (!b23) (K (.slice none 0 0) w22) (Cll Try.prog 91 #[(.slice A0 n0 c0), (.int .i64 x1)] w22 fun v24 w25 => (∃ (A26 : Option Addr) (n27 : Nat) (c28 : Nat), v24 = (.slice A26 n27 c28) ∧ Cll Try.prog 135 #[(.slice A0 n0 c0), (.int .i64 x1)] w25 fun v29 w30 => (∃ (n31 : Int), v29 = (.int .i64 n31) ∧ Cll Try.prog 90 #[(.slice A0 n0 c0), (.slice A26 n27 c28), (.int .i64 n31)] w30 fun v32 w33 => (∃ (A34 : Option Addr) (n35 : Nat) (c36 : Nat), v32 = (.slice A34 n35 c36) ∧ Cll Try.prog 134 #[(.slice A34 n35 c36)] w33 fun v37 w38 => (∃ (A39 : Option Addr) (n40 : Nat) (c41 : Nat), v37 = (.slice A39 n40 c41) ∧ K (.slice A39 n40 c41) w38))))))

def impl_InsideOf.ann : Ann := (.seq .l (.seq (.seq .l (.two (.seq .l .l) .l)) (.seq .l .l)))

theorem impl_InsideOf.vc_eq (A0 : Option Addr) (n0 : Nat) (c0 : Nat) (x1 : Int) (w : World) (K : Value → World → Prop) : vcF Try.prog Try.f80 impl_InsideOf.ann [(.slice A0 n0 c0), (.int .i64 x1)] K w = impl_InsideOf.vc A0 n0 c0 x1 w K := by kernel_rfl

theorem impl_InsideOf.start {A0 : Option Addr} {n0 : Nat} {c0 : Nat} {x1 : Int} {w : World} {K : Value → World → Prop} (h : impl_InsideOf.vc A0 n0 c0 x1 w K) : Cll Try.prog 80 #[(.slice A0 n0 c0), (.int .i64 x1)] w K :=
  vcF_sound mixed (fn := Try.f80) (by kernel_rfl) (by kernel_rfl) (an := impl_InsideOf.ann) (args := [(.slice A0 n0 c0), (.int .i64 x1)]) (by rw [impl_InsideOf.vc_eq]; exact h)

theorem impl_InsideOf.con {xs0 : List D.Ins} {A0 : Option Addr} {c0 : Nat} {x1 : Int} {r : List Int} {w : World} (hp : M.impl_InsideOf_pre xs0 x1) (hr : r = M.impl_InsideOf xs0 x1) (R0 : Row el76 w A0 xs0) (hc0 : xs0.length ≤ c0) :
    Cll Try.prog 80 #[(.slice A0 xs0.length c0), (.int .i64 x1)] w (fun v_ w_ => ∃ (A0_ : Option Addr) (c0_ : Nat), v_ = (.slice A0_ r.length c0_) ∧ Own el3 w_ w.heap.size A0_ c0_ r ∧ Ext w w_) := by
  have H := wp.impl_InsideOf.math xs0 x1 hp
  have hB := Ext.refl w
  refine impl_InsideOf.start ?_
  unfold impl_InsideOf.vc
  unfold wp.impl_InsideOf at H
  obtain ⟨hp23, H⟩ := H
  obtain ⟨r21, hr22⟩ : ∃ r_, r_ = M.impl_isBranch xs0 x1 := ⟨_, rfl⟩
  have H := H r21 hr22
  refine (impl_isBranch.con hp23 hr22 (R0.ext hB) hc0).mono ?_
  rintro _ w24 ⟨rfl, e25⟩
  have hB := ethen hB e25
  refine ⟨r21, rfl, ?_⟩
  refine bcase_mk (fun hc52 => ?_) (fun hc52 => ?_)
  · have H := (bcase_iff.1 H).1 hc52
    obtain rfl := hr.trans H.symm
    exact ⟨none, 0, rfl, Own.nil, hB⟩
  · have H := (bcase_iff.1 H).2 hc52
    obtain ⟨hp28, H⟩ := H
    obtain ⟨r26, hr27⟩ : ∃ r_, r_ = M.impl_next xs0 x1 := ⟨_, rfl⟩
    have H := H r26 hr27
    refine (impl_next.con hp28 hr27 (R0.ext hB) hc0).mono ?_
    rintro _ w29 ⟨A31, c32, rfl, P2, e30⟩
    have O2 := P2.mono hB.size
    have hB := ethen hB e30
    refine ⟨A31, r26.length, c32, rfl, ?_⟩
    obtain ⟨hp35, H⟩ := H
    obtain ⟨r33, hr34⟩ : ∃ r_, r_ = M.impl_JoinOf xs0 x1 := ⟨_, rfl⟩
    have H := H r33 hr34
    refine (impl_JoinOf.con hp35 hr34 (R0.ext hB) hc0).mono ?_
    rintro _ w36 ⟨rfl, e37⟩
    have O2 := O2.ext e37
    have hB := ethen hB e37
    refine ⟨r33, rfl, ?_⟩
    obtain ⟨hp40, H⟩ := H
    obtain ⟨r38, hr39⟩ : ∃ r_, r_ = M.impl_reached xs0 r26 r33 := ⟨_, rfl⟩
    have H := H r38 hr39
    refine (impl_reached.con hp40 hr39 (R0.ext hB) hc0 O2.row O2.le).mono ?_
    rintro _ w41 ⟨A43, c44, rfl, P3, e42⟩
    have N2_3 := Own.apart2_new O2 P3 (Nat.le_refl _)
    have O2 := O2.ext e42
    have O3 := P3.mono hB.size
    have hB := ethen hB e42
    refine ⟨A43, r38.length, c44, rfl, ?_⟩
    obtain ⟨hp47, H⟩ := H
    obtain ⟨r45, hr46⟩ : ∃ r_, r_ = M.impl_trues r38 := ⟨_, rfl⟩
    have H := H r45 hr46
    refine (impl_trues.con hp47 hr46 O3.row O3.le).mono ?_
    rintro _ w48 ⟨A50, c51, rfl, P4, e49⟩
    have N2_4 := Own.apart2_new O2 P4 (Nat.le_refl _)
    have N3_4 := Own.apart2_new O3 P4 (Nat.le_refl _)
    have O2 := O2.ext e49
    have O3 := O3.ext e49
    have O4 := P4.mono hB.size
    have hB := ethen hB e49
    refine ⟨A50, r45.length, c51, rfl, ?_⟩
    obtain rfl := hr.trans H.symm
    exact ⟨A50, c51, rfl, O4, hB⟩

def impl_BarriersSafe_1_1.vc (x0 : Int) (p1 : Addr) (w : World) (K : Value → World → Prop) : Prop :=
  ∃ (A21 : Option Addr) (n22 : Nat) (c23 : Nat), w.cell? (p1.add 0) = some (.slice A21 n22 c23) ∧ bcase (decide (x0 < ((n22 : Nat) : Int))) (∃ (A24 : Option Addr) (n25 : Nat) (c26 : Nat), w.cell? (p1.add 0) = some (.slice A24 n25 c26) ∧ ((0 : Int) ≤ x0 ∧ x0 < ((n25 : Nat) : Int) ∧ ∃ a27 : Addr, A24 = some a27 ∧ ∃ (n28 : Int), w.cell? (((a27.add ((x0.toNat) * 4)).add 0).add 0) = some (.int .i64 n28) ∧ K (.bool (n28 == 16)) w)) (K (.bool false) w)

def impl_BarriersSafe_1_1.ann : Ann := (.seq .l (.seq .l .l))

theorem impl_BarriersSafe_1_1.vc_eq (x0 : Int) (p1 : Addr) (w : World) (K : Value → World → Prop) : vcF Try.prog Try.f81 impl_BarriersSafe_1_1.ann [(.int .i64 x0), (.pointer (some p1))] K w = impl_BarriersSafe_1_1.vc x0 p1 w K := by kernel_rfl

theorem impl_BarriersSafe_1_1.start {x0 : Int} {p1 : Addr} {w : World} {K : Value → World → Prop} (h : impl_BarriersSafe_1_1.vc x0 p1 w K) : Cll Try.prog 81 #[(.int .i64 x0), (.pointer (some p1))] w K :=
  vcF_sound mixed (fn := Try.f81) (by kernel_rfl) (by kernel_rfl) (an := impl_BarriersSafe_1_1.ann) (args := [(.int .i64 x0), (.pointer (some p1))]) (by rw [impl_BarriersSafe_1_1.vc_eq]; exact h)

theorem impl_BarriersSafe_1_1.con {x0 : Int} {xs1 : List D.Ins} {g1_ : Nat} {A1_0 : Option Addr} {c1_0 : Nat} {r : Bool} {w : World} (hp : M.impl_BarriersSafe_1_1_pre x0 xs1) (hr : r = M.impl_BarriersSafe_1_1 x0 xs1) (O1 : Blk w g1_ 29 #[(.slice A1_0 xs1.length c1_0)]) (R1_0 : Row el76 w A1_0 xs1) (hc1_0 : xs1.length ≤ c1_0) :
    Cll Try.prog 81 #[(.int .i64 x0), (.pointer (some (⟨g1_, 0, none⟩ : Addr)))] w (fun v_ w_ => v_ = (.bool r) ∧ Ext w w_) := by
  have H := wp.impl_BarriersSafe_1_1.math x0 xs1 hp
  have hB := Ext.refl w
  refine impl_BarriersSafe_1_1.start ?_
  unfold impl_BarriersSafe_1_1.vc
  unfold wp.impl_BarriersSafe_1_1 at H
  refine ⟨_, _, _, (O1.at 0 rfl rfl), ?_⟩
  refine bcase_mk (fun hc26 => ?_) (fun hc26 => ?_)
  · have H := (bcase_iff.1 H).1 hc26
    refine ⟨_, _, _, (O1.at 0 rfl rfl), ?_⟩
    obtain ⟨⟨h0_24, h1_25⟩, H⟩ := H
    obtain ⟨a22, ha23, hat21⟩ := Row.at (R1_0.ext hB) h0_24 h1_25
    refine ⟨h0_24, h1_25, a22, ha23, ?_⟩
    refine ⟨_, (hat21 0 _ rfl), ?_⟩
    obtain rfl := hr.trans H.symm
    exact ⟨rfl, hB⟩
  · have H := (bcase_iff.1 H).2 hc26
    obtain rfl := hr.trans H.symm
    exact ⟨rfl, hB⟩

def impl_BarriersSafe_1.vc (x0 : Int) (p1 : Addr) (w : World) (K : Value → World → Prop) : Prop :=
  ∃ (A21 : Option Addr) (n22 : Nat) (c23 : Nat), w.cell? (p1.add 0) = some (.slice A21 n22 c23) ∧ Cll Try.prog 80 #[(.slice A21 n22 c23), (.int .i64 x0)] w fun v24 w25 => (∃ (A26 : Option Addr) (n27 : Nat) (c28 : Nat), v24 = (.slice A26 n27 c28) ∧ Cll Try.prog 77 #[(.slice A26 n27 c28), (.func (.func 81) #[] #[(.pointer (some p1))])] w25 fun v29 w30 => (∃ (b31 : Bool), v29 = (.bool b31) ∧ K (.bool b31) w30))

def impl_BarriersSafe_1.ann : Ann := (.seq .l (.seq .l .l))

theorem impl_BarriersSafe_1.vc_eq (x0 : Int) (p1 : Addr) (w : World) (K : Value → World → Prop) : vcF Try.prog Try.f79 impl_BarriersSafe_1.ann [(.int .i64 x0), (.pointer (some p1))] K w = impl_BarriersSafe_1.vc x0 p1 w K := by kernel_rfl

theorem impl_BarriersSafe_1.start {x0 : Int} {p1 : Addr} {w : World} {K : Value → World → Prop} (h : impl_BarriersSafe_1.vc x0 p1 w K) : Cll Try.prog 79 #[(.int .i64 x0), (.pointer (some p1))] w K :=
  vcF_sound mixed (fn := Try.f79) (by kernel_rfl) (by kernel_rfl) (an := impl_BarriersSafe_1.ann) (args := [(.int .i64 x0), (.pointer (some p1))]) (by rw [impl_BarriersSafe_1.vc_eq]; exact h)

theorem impl_BarriersSafe_1.con {x0 : Int} {xs1 : List D.Ins} {g1_ : Nat} {A1_0 : Option Addr} {c1_0 : Nat} {r : Bool} {w : World} (hp : M.impl_BarriersSafe_1_pre x0 xs1) (hr : r = M.impl_BarriersSafe_1 x0 xs1) (O1 : Blk w g1_ 29 #[(.slice A1_0 xs1.length c1_0)]) (R1_0 : Row el76 w A1_0 xs1) (hc1_0 : xs1.length ≤ c1_0) :
    Cll Try.prog 79 #[(.int .i64 x0), (.pointer (some (⟨g1_, 0, none⟩ : Addr)))] w (fun v_ w_ => v_ = (.bool r) ∧ Ext w w_) := by
  have H := wp.impl_BarriersSafe_1.math x0 xs1 hp
  have hB := Ext.refl w
  refine impl_BarriersSafe_1.start ?_
  unfold impl_BarriersSafe_1.vc
  unfold wp.impl_BarriersSafe_1 at H
  refine ⟨_, _, _, (O1.at 0 rfl rfl), ?_⟩
  obtain ⟨hp23, H⟩ := H
  obtain ⟨r21, hr22⟩ : ∃ r_, r_ = M.impl_InsideOf xs1 x0 := ⟨_, rfl⟩
  have H := H r21 hr22
  refine (impl_InsideOf.con hp23 hr22 (R1_0.ext hB) hc1_0).mono ?_
  rintro _ w24 ⟨A26, c27, rfl, P3, e25⟩
  have N3_1 := P3.apart_old O1.lt
  have O1 := O1.ext e25
  have O3 := P3.mono hB.size
  have hB := ethen hB e25
  refine ⟨A26, r21.length, c27, rfl, ?_⟩
  obtain ⟨hp30, H⟩ := H
  obtain ⟨r28, hr29⟩ : ∃ r_, r_ = M.slices_ContainsFunc_int_int r21 (fun z0_ => M.impl_BarriersSafe_1_1 z0_ xs1) := ⟨_, rfl⟩
  have H := H r28 hr29
  refine (slices_ContainsFunc_int_int.con hp30 hr29 O3.row O3.le (fun z0_ h_ w_ e_ => cllApp (l1 := [_]) (l2 := [_]) (impl_BarriersSafe_1_1.con h_ rfl (O1.ext e_) (R1_0.ext (ethen hB e_)) hc1_0))).mono ?_
  rintro _ w31 ⟨rfl, e32⟩
  have O1 := O1.ext e32
  have O3 := O3.ext e32
  have hB := ethen hB e32
  refine ⟨r28, rfl, ?_⟩
  obtain rfl := hr.trans H.symm
  exact ⟨rfl, hB⟩

def impl_BarriersSafe.vc (A0 : Option Addr) (n0 : Nat) (c0 : Nat) (w : World) (K : Value → World → Prop) : Prop :=
  newK w (.cells #[(.slice A0 n0 c0)] 29) fun g21 w22 => ∃ (A23 : Option Addr) (n24 : Nat) (c25 : Nat), w22.cell? ((⟨g21, 0, none⟩ : Addr).add 0) = some (.slice A23 n24 c25) ∧ Cll Try.prog 76 #[(.slice A23 n24 c25)] w22 fun v26 w27 => (∃ (b28 : Bool), v26 = (.bool b28) ∧ bcase b28 (∃ (A29 : Option Addr) (n30 : Nat) (c31 : Nat), w27.cell? ((⟨g21, 0, none⟩ : Addr).add 0) = some (.slice A29 n30 c31) ∧ Cll Try.prog 78 #[(.slice A29 n30 c31)] w27 fun v32 w33 => (∃ (A34 : Option Addr) (n35 : Nat) (c36 : Nat), v32 = (.slice A34 n35 c36) ∧ Cll Try.prog 77 #[(.slice A34 n35 c36), (.func (.func 79) #[] #[(.pointer (some (⟨g21, 0, none⟩ : Addr)))])] w33 fun v37 w38 => (∃ (b39 : Bool), v37 = (.bool b39) ∧ K (.bool (!b39)) w38))) (K (.bool false) w27))

def impl_BarriersSafe.ann : Ann := (.seq .l (.seq .l .l))

theorem impl_BarriersSafe.vc_eq (A0 : Option Addr) (n0 : Nat) (c0 : Nat) (w : World) (K : Value → World → Prop) : vcF Try.prog Try.f32 impl_BarriersSafe.ann [(.slice A0 n0 c0)] K w = impl_BarriersSafe.vc A0 n0 c0 w K := by kernel_rfl

theorem impl_BarriersSafe.start {A0 : Option Addr} {n0 : Nat} {c0 : Nat} {w : World} {K : Value → World → Prop} (h : impl_BarriersSafe.vc A0 n0 c0 w K) : Cll Try.prog 32 #[(.slice A0 n0 c0)] w K :=
  vcF_sound mixed (fn := Try.f32) (by kernel_rfl) (by kernel_rfl) (an := impl_BarriersSafe.ann) (args := [(.slice A0 n0 c0)]) (by rw [impl_BarriersSafe.vc_eq]; exact h)

theorem impl_BarriersSafe.con {xs0 : List D.Ins} {A0 : Option Addr} {c0 : Nat} {r : Bool} {w : World} (hp : M.impl_BarriersSafe_pre xs0) (hr : r = M.impl_BarriersSafe xs0) (R0 : Row el76 w A0 xs0) (hc0 : xs0.length ≤ c0) :
    Cll Try.prog 32 #[(.slice A0 xs0.length c0)] w (fun v_ w_ => v_ = (.bool r) ∧ Ext w w_) := by
  have H := wp.impl_BarriersSafe.math xs0 hp
  have hB := Ext.refl w
  refine impl_BarriersSafe.start ?_
  unfold impl_BarriersSafe.vc
  unfold wp.impl_BarriersSafe at H
  refine newBlk (fun g2_ w21 L2 P2 e22 => ?_)
  have O2 := P2
  have L2 := Nat.le_trans hB.size L2
  have hB := ethen hB e22
  refine ⟨_, _, _, (O2.at 0 rfl rfl), ?_⟩
  obtain ⟨hp25, H⟩ := H
  obtain ⟨r23, hr24⟩ : ∃ r_, r_ = M.impl_ProgramOk xs0 := ⟨_, rfl⟩
  have H := H r23 hr24
  refine (impl_ProgramOk.con hp25 hr24 (R0.ext hB) hc0).mono ?_
  rintro _ w26 ⟨rfl, e27⟩
  have O2 := O2.ext e27
  have hB := ethen hB e27
  refine ⟨r23, rfl, ?_⟩
  refine bcase_mk (fun hc40 => ?_) (fun hc40 => ?_)
  · have H := (bcase_iff.1 H).1 hc40
    refine ⟨_, _, _, (O2.at 0 rfl rfl), ?_⟩
    obtain ⟨hp30, H⟩ := H
    obtain ⟨r28, hr29⟩ : ∃ r_, r_ = M.impl_BranchesOf xs0 := ⟨_, rfl⟩
    have H := H r28 hr29
    refine (impl_BranchesOf.con hp30 hr29 (R0.ext hB) hc0).mono ?_
    rintro _ w31 ⟨A33, c34, rfl, P3, e32⟩
    have N3_2 := P3.apart_old O2.lt
    have O2 := O2.ext e32
    have O3 := P3.mono hB.size
    have hB := ethen hB e32
    refine ⟨A33, r28.length, c34, rfl, ?_⟩
    obtain ⟨hp37, H⟩ := H
    obtain ⟨r35, hr36⟩ : ∃ r_, r_ = M.slices_ContainsFunc_int_int r28 (fun z0_ => M.impl_BarriersSafe_1 z0_ xs0) := ⟨_, rfl⟩
    have H := H r35 hr36
    refine (slices_ContainsFunc_int_int.con hp37 hr36 O3.row O3.le (fun z0_ h_ w_ e_ => cllApp (l1 := [_]) (l2 := [_]) (impl_BarriersSafe_1.con h_ rfl (O2.ext e_) (R0.ext (ethen hB e_)) hc0))).mono ?_
    rintro _ w38 ⟨rfl, e39⟩
    have O2 := O2.ext e39
    have O3 := O3.ext e39
    have hB := ethen hB e39
    refine ⟨r35, rfl, ?_⟩
    obtain rfl := hr.trans H.symm
    exact ⟨rfl, hB⟩
  · have H := (bcase_iff.1 H).2 hc40
    obtain rfl := hr.trans H.symm
    exact ⟨rfl, hB⟩

def laws_FnExactBarriersSafe.vc (A0 : Option Addr) (n0 : Nat) (c0 : Nat) (w : World) (K : Value → World → Prop) : Prop :=
  Cll Try.prog 29 #[(.slice A0 n0 c0), (.int .i64 1048576)] w fun v21 w22 => (∃ (n23 : Int), v21 = (.int .i64 n23) ∧ bcase (decide (n23 < 0)) (K (.bool true) w22) (Cll Try.prog 31 #[(.slice A0 n0 c0)] w22 fun v24 w25 => (∃ (A26 : Option Addr) (n27 : Nat) (c28 : Nat), v24 = (.slice A26 n27 c28) ∧ Cll Try.prog 30 #[(.slice A26 n27 c28)] w25 fun v29 w30 => (∃ (b31 : Bool), v29 = (.bool b31) ∧ Cll Try.prog 31 #[(.slice A0 n0 c0)] w30 fun v32 w33 => (∃ (A34 : Option Addr) (n35 : Nat) (c36 : Nat), v32 = (.slice A34 n35 c36) ∧ Cll Try.prog 32 #[(.slice A34 n35 c36)] w33 fun v37 w38 => (∃ (b39 : Bool), v37 = (.bool b39) ∧ bcase (!(b39 == b31)) (K (.bool false) w38) (Cll Try.prog 31 #[(.slice A0 n0 c0)] w38 fun v40 w41 => (∃ (A42 : Option Addr) (n43 : Nat) (c44 : Nat), v40 = (.slice A42 n43 c44) ∧ Cll Try.prog 33 #[(.slice A34 n35 c36), (.slice A42 n43 c44)] w41 fun v45 w46 => (∃ (b47 : Bool), v45 = (.bool b47) ∧ bcase (!b47) (K (.bool false) w46) (K (.bool true) w46))))))))))

def laws_FnExactBarriersSafe.ann : Ann := (.seq .l (.seq .l (.seq .l (.seq (.seq .l (.two (.seq .l .l) .l)) (.seq .l (.seq .l (.seq .l (.seq (.seq .l (.two (.seq .l .l) .l)) (.seq (.seq .l (.two (.seq .l .l) .l)) (.seq .l .l))))))))))

theorem laws_FnExactBarriersSafe.vc_eq (A0 : Option Addr) (n0 : Nat) (c0 : Nat) (w : World) (K : Value → World → Prop) : vcF Try.prog Try.f8 laws_FnExactBarriersSafe.ann [(.slice A0 n0 c0)] K w = laws_FnExactBarriersSafe.vc A0 n0 c0 w K := by kernel_rfl

theorem laws_FnExactBarriersSafe.start {A0 : Option Addr} {n0 : Nat} {c0 : Nat} {w : World} {K : Value → World → Prop} (h : laws_FnExactBarriersSafe.vc A0 n0 c0 w K) : Cll Try.prog 8 #[(.slice A0 n0 c0)] w K :=
  vcF_sound mixed (fn := Try.f8) (by kernel_rfl) (by kernel_rfl) (an := laws_FnExactBarriersSafe.ann) (args := [(.slice A0 n0 c0)]) (by rw [laws_FnExactBarriersSafe.vc_eq]; exact h)

theorem laws_FnExactBarriersSafe.con {xs0 : List D.Ins} {A0 : Option Addr} {c0 : Nat} {r : Bool} {w : World} (hp : M.laws_FnExactBarriersSafe_pre xs0) (hr : r = M.laws_FnExactBarriersSafe xs0) (R0 : Row el78 w A0 xs0) (hc0 : xs0.length ≤ c0) :
    Cll Try.prog 8 #[(.slice A0 xs0.length c0)] w (fun v_ w_ => v_ = (.bool r) ∧ Ext w w_) := by
  have H := wp.laws_FnExactBarriersSafe.math xs0 hp
  have hB := Ext.refl w
  refine laws_FnExactBarriersSafe.start ?_
  unfold laws_FnExactBarriersSafe.vc
  unfold wp.laws_FnExactBarriersSafe at H
  obtain ⟨hp23, H⟩ := H
  obtain ⟨r21, hr22⟩ : ∃ r_, r_ = M.laws_szInsS xs0 1048576 := ⟨_, rfl⟩
  have H := H r21 hr22
  refine (laws_szInsS.con hp23 hr22 (R0.ext hB) hc0).mono ?_
  rintro _ w24 ⟨rfl, e25⟩
  have hB := ethen hB e25
  refine ⟨r21, rfl, ?_⟩
  refine bcase_mk (fun hc64 => ?_) (fun hc64 => ?_)
  · have H := (bcase_iff.1 H).1 hc64
    obtain rfl := hr.trans H.symm
    exact ⟨rfl, hB⟩
  · have H := (bcase_iff.1 H).2 hc64
    obtain ⟨hp28, H⟩ := H
    obtain ⟨r26, hr27⟩ : ∃ r_, r_ = M.laws_toInsS xs0 := ⟨_, rfl⟩
    have H := H r26 hr27
    refine (laws_toInsS.con hp28 hr27 (R0.ext hB) hc0).mono ?_
    rintro _ w29 ⟨A31, c32, rfl, P2, e30⟩
    have O2 := P2.mono hB.size
    have hB := ethen hB e30
    refine ⟨A31, r26.length, c32, rfl, ?_⟩
    obtain ⟨hp35, H⟩ := H
    obtain ⟨r33, hr34⟩ : ∃ r_, r_ = M.spec_BarriersSafe r26 := ⟨_, rfl⟩
    have H := H r33 hr34
    refine (spec_BarriersSafe.con hp35 hr34 O2.row O2.le).mono ?_
    rintro _ w36 ⟨rfl, e37⟩
    have O2 := O2.ext e37
    have hB := ethen hB e37
    refine ⟨r33, rfl, ?_⟩
    obtain ⟨hp40, H⟩ := H
    obtain ⟨r38, hr39⟩ : ∃ r_, r_ = M.laws_toInsS xs0 := ⟨_, rfl⟩
    have H := H r38 hr39
    refine (laws_toInsS.con hp40 hr39 (R0.ext hB) hc0).mono ?_
    rintro _ w41 ⟨A43, c44, rfl, P3, e42⟩
    have N2_3 := Own.apart2_new O2 P3 (Nat.le_refl _)
    have O2 := O2.ext e42
    have O3 := P3.mono hB.size
    have hB := ethen hB e42
    refine ⟨A43, r38.length, c44, rfl, ?_⟩
    obtain ⟨hp47, H⟩ := H
    obtain ⟨r45, hr46⟩ : ∃ r_, r_ = M.impl_BarriersSafe r38 := ⟨_, rfl⟩
    have H := H r45 hr46
    refine (impl_BarriersSafe.con hp47 hr46 O3.row O3.le).mono ?_
    rintro _ w48 ⟨rfl, e49⟩
    have O2 := O2.ext e49
    have O3 := O3.ext e49
    have hB := ethen hB e49
    refine ⟨r45, rfl, ?_⟩
    refine bcase_mk (fun hc63 => ?_) (fun hc63 => ?_)
    · have H := (bcase_iff.1 H).1 hc63
      obtain rfl := hr.trans H.symm
      exact ⟨rfl, hB⟩
    · have H := (bcase_iff.1 H).2 hc63
      obtain ⟨hp52, H⟩ := H
      obtain ⟨r50, hr51⟩ : ∃ r_, r_ = M.laws_toInsS xs0 := ⟨_, rfl⟩
      have H := H r50 hr51
      refine (laws_toInsS.con hp52 hr51 (R0.ext hB) hc0).mono ?_
      rintro _ w53 ⟨A55, c56, rfl, P4, e54⟩
      have N2_4 := Own.apart2_new O2 P4 (Nat.le_refl _)
      have N3_4 := Own.apart2_new O3 P4 (Nat.le_refl _)
      have O2 := O2.ext e54
      have O3 := O3.ext e54
      have O4 := P4.mono hB.size
      have hB := ethen hB e54
      refine ⟨A55, r50.length, c56, rfl, ?_⟩
      obtain ⟨hp59, H⟩ := H
      obtain ⟨r57, hr58⟩ : ∃ r_, r_ = M.laws_eqInsS r38 r50 := ⟨_, rfl⟩
      have H := H r57 hr58
      refine (laws_eqInsS.con hp59 hr58 O3.row O3.le O4.row O4.le).mono ?_
      rintro _ w60 ⟨rfl, e61⟩
      have O2 := O2.ext e61
      have O3 := O3.ext e61
      have O4 := O4.ext e61
      have hB := ethen hB e61
      refine ⟨r57, rfl, ?_⟩
      refine bcase_mk (fun hc62 => ?_) (fun hc62 => ?_)
      · have H := (bcase_iff.1 H).1 hc62
        obtain rfl := hr.trans H.symm
        exact ⟨rfl, hB⟩
      · have H := (bcase_iff.1 H).2 hc62
        obtain rfl := hr.trans H.symm
        exact ⟨rfl, hB⟩

end Go.V
