import Derived.Test.YtdjkglkcohknbaaGreatKPrCon1
namespace Go.V
open Go.Proofs
set_option linter.unusedVariables false
set_option linter.unusedSimpArgs false
set_option maxRecDepth 100000
def slices_Compact_int_int.vc (A0 : Option Addr) (n0 : Nat) (c0 : Nat) (w : World) (K : Value → World → Prop) : Prop :=
  bcase (decide (((n0 : Nat) : Int) < 2)) (K (.slice A0 n0 c0) w) (LoopT (σ := Int × Unit) (fun z21 w22 next23 => bcase (decide (z21.1 < ((n0 : Nat) : Int))) (((0 : Int) ≤ z21.1 ∧ z21.1 < ((n0 : Nat) : Int) ∧ ∃ a24 : Addr, A0 = some a24 ∧ ∃ (n25 : Int), w22.cell? ((a24.add ((z21.1.toNat) * 1)).add 0) = some (.int .i64 n25) ∧ ((0 : Int) ≤ (IntKind.wrap .i64 (z21.1 - 1)) ∧ (IntKind.wrap .i64 (z21.1 - 1)) < ((n0 : Nat) : Int) ∧ ∃ a26 : Addr, A0 = some a26 ∧ ∃ (n27 : Int), w22.cell? ((a26.add (((IntKind.wrap .i64 (z21.1 - 1)).toNat) * 1)).add 0) = some (.int .i64 n27) ∧ bcase (n25 == n27) (((0 : Int) ≤ z21.1 ∧ z21.1 ≤ ((n0 : Nat) : Int) ∧ LoopT (σ := Int × Int × Unit) (fun z28 w29 next30 => bcase (decide (z28.2.1 < (((n0 - (z21.1.toNat)) : Nat) : Int))) (((0 : Int) ≤ z28.2.1 ∧ z28.2.1 < (((n0 - (z21.1.toNat)) : Nat) : Int) ∧ ∃ a31 : Addr, (if c0 = (z21.1.toNat) then A0 else A0.map (·.add ((z21.1.toNat) * szOf Tryz.prog 3))) = some a31 ∧ ∃ (n32 : Int), w29.cell? ((a31.add ((z28.2.1.toNat) * 1)).add 0) = some (.int .i64 n32) ∧ ((0 : Int) ≤ (IntKind.wrap .i64 (z28.2.1 - 1)) ∧ (IntKind.wrap .i64 (z28.2.1 - 1)) < (((n0 - (z21.1.toNat)) : Nat) : Int) ∧ ∃ a33 : Addr, (if c0 = (z21.1.toNat) then A0 else A0.map (·.add ((z21.1.toNat) * szOf Tryz.prog 3))) = some a33 ∧ ∃ (n34 : Int), w29.cell? ((a33.add (((IntKind.wrap .i64 (z28.2.1 - 1)).toNat) * 1)).add 0) = some (.int .i64 n34) ∧ bcase (n32 != n34) (((0 : Int) ≤ z28.2.1 ∧ z28.2.1 < (((n0 - (z21.1.toNat)) : Nat) : Int) ∧ ∃ a35 : Addr, (if c0 = (z21.1.toNat) then A0 else A0.map (·.add ((z21.1.toNat) * szOf Tryz.prog 3))) = some a35 ∧ ∃ (n36 : Int), w29.drew.cell? ((a35.add ((z28.2.1.toNat) * 1)).add 0) = some (.int .i64 n36) ∧ ((0 : Int) ≤ z28.1 ∧ z28.1 < ((n0 : Nat) : Int) ∧ ∃ a37 : Addr, A0 = some a37 ∧ stCells (a37.add ((z28.1.toNat) * 1)) [(.int .i64 n36)] 0 w29.drew fun w38 => next30 ((IntKind.wrap .i64 (z28.1 + 1)), (IntKind.wrap .i64 (z28.2.1 + 1)), ()) w38))) (next30 (z28.1, (IntKind.wrap .i64 (z28.2.1 + 1)), ()) w29.drew)))) (((0 : Int) ≤ z28.1 ∧ z28.1 ≤ ((n0 : Nat) : Int) ∧ Run Tryz.prog (Builtin.clear_ #[27] 0 #[(.slice (if c0 = (z28.1.toNat) then A0 else A0.map (·.add ((z28.1.toNat) * szOf Tryz.prog 3))) (n0 - (z28.1.toNat)) (c0 - (z28.1.toNat)))]) w29 fun v39 w40 => v39 = .tuple #[] ∧ ((0 : Int) ≤ z28.1 ∧ z28.1 ≤ ((c0 : Nat) : Int) ∧ K (.slice A0 (z28.1.toNat) c0) w40)))) (z21.1, 1, ()) w22.drew)) (next23 ((IntKind.wrap .i64 (z21.1 + 1)), ()) w22.drew)))) (K (.slice A0 n0 c0) w22)) (1, ()) w)

def slices_Compact_int_int.ann : Ann := (.seq .l (.seq (.seq .l (.two (.seq .l .l) .l)) (.seq (.seq .l (.one (.loop [(3, .int .i64)] (.seq (.seq .l (.two .l .l)) (.seq (.one (.seq .l (.two (.seq .l (.seq (.seq .l (.one (.loop [(3, .int .i64), (5, .int .i64)] (.seq (.seq .l (.two .l .l)) (.seq (.one (.seq .l (.two (.seq .l .l) .l))) .l))))) (.seq .l (.seq .l .l)))) .l))) .l))))) (.seq .l .l))))

theorem slices_Compact_int_int.con {xs0 : List Int} {A0 : Option Addr} {c0 : Nat} {r : List Int} {w : World} (hp : M.slices_Compact_int_int_pre xs0) (hr : r = M.slices_Compact_int_int xs0) (O1 : Own el3 w 0 A0 c0 xs0) :
    Cll Tryz.prog 185 #[(.slice A0 xs0.length c0)] w (fun v_ w_ => ∃ (A0_ : Option Addr) (c0_ : Nat), v_ = (.slice A0_ r.length c0_) ∧ Own el3 w_ 0 A0_ c0_ r ∧ Mov w A0 A0_ ∧ Chg (InB A0) w w_) := by
  have H := wp.slices_Compact_int_int.math xs0 hp
  have hB := Chg.refl (InB A0) w
  refine beginF mixed (fn := Tryz.f185) (by kernel_rfl) (by kernel_rfl) (an := slices_Compact_int_int.ann) (V := slices_Compact_int_int.vc A0 xs0.length c0) (by kernel_rfl) ?_
  unfold slices_Compact_int_int.vc
  unfold wp.slices_Compact_int_int at H
  refine brc H (fun hc68 H => ?_) (fun hc68 H => ?_)
  ·obtain rfl := hr.trans H.symm
   exact ⟨A0, c0, rfl, (O1.mono (Nat.zero_le _)), (Mov.same _ _), hB⟩
  obtain ⟨J23, ⟨m66, hJ65⟩, hS24⟩ := H
  refine ⟨fun m_ z_ w_ => ∃ (i21 : Int), z_ = (i21, ()) ∧ J23 m_ (i21, ()) ∧ Chg (InB A0) w w_ ∧ Own el3 w_ 0 A0 c0 xs0, ⟨m66, 1, rfl, hJ65, hB, O1⟩, ?_⟩
  rintro m22 _ w26 ⟨i21, rfl, hJ67, hB, O1⟩
  have H := hS24 m22 _ hJ67
  clear hS24 hJ67
  try dsimp only at H ⊢
  refine brc H (fun hc63 H => ?_) (fun hc63 H => ?_)
  ·obtain ⟨⟨h0_31, h1_32⟩, H⟩ := H
   obtain ⟨a29, ha30, hat28⟩ := Row.at O1.row h0_31 h1_32
   refine ⟨h0_31, h1_32, a29, ha30, _, (hat28 0 _ rfl), ?_⟩
   obtain ⟨⟨h0_36, h1_37⟩, H⟩ := H
   obtain ⟨a34, ha35, hat33⟩ := Row.at O1.row h0_36 h1_37
   refine ⟨h0_36, h1_37, a34, ha35, _, (hat33 0 _ rfl), ?_⟩
   have O1 := O1.ext (Ext.drew _)
   have hB := hB.then (Ext.drew _)
   refine brc H (fun hc62 H => ?_) (fun hc62 H => ?_)
   ·obtain ⟨⟨hl38, hl39⟩, H⟩ := H
    refine and_assoc.1 ⟨⟨hl38, hl39⟩, ?_⟩
    rw [show (xs0.length - (i21.toNat)) = ((List.drop (i21.toNat) xs0)).length from by first | rfl | (simp; done) | (simp; omega)]
    have O2 := (O1.drop (l := (i21.toNat)) (by first | omega | (simp; done) | (simp; omega)))
    obtain ⟨J43, ⟨m57, hJ56⟩, hS44⟩ := H
    refine ⟨fun m_ z_ w_ => ∃ (i40 : Int) (i41 : Int), z_ = (i40, i41, ()) ∧ J43 m_ (i40, i41, ()) ∧ Chg (InB A0) w w_ ∧ Own el3 w_ 0 A0 c0 xs0, ⟨m57, i21, 1, rfl, hJ56, hB, O1⟩, ?_⟩
    rintro m42 _ w46 ⟨i40, i41, rfl, hJ58, hB, O1⟩
    have H := hS44 m42 _ hJ58
    clear hS44 hJ58
    try dsimp only at H ⊢
    refine brc H (fun hc54 H => ?_) (fun hc54 H => ?_)
    ·exact H.elim
    obtain ⟨⟨hl48, hl49⟩, H⟩ := H
    refine and_assoc.1 ⟨⟨hl48, hl49⟩, ?_⟩
    rw [show (xs0.length - (i40.toNat)) = ((List.drop (i40.toNat) xs0)).length from by first | rfl | (simp; done) | (simp; omega)]
    have O3 := (O1.drop (l := (i40.toNat)) (by first | omega | (simp; done) | (simp; omega)))
    refine clearCut slt27 O1 (l := (i40.toNat)) (by first | omega | (simp; omega)) (by first | rfl | (simp; done) | (simp; omega)) (fun w50 P1 e51 => ?_)
    have hB := hB.app e51 (fun g h_ => (Or.inr h_))
    have O1 := P1
    obtain ⟨⟨hh52, hh53⟩, H⟩ := H
    refine and_assoc.1 ⟨⟨hh52, Int.le_trans hh53 (Int.ofNat_le.2 O1.le)⟩, ?_⟩
    rw [show (i40.toNat) = ((List.take (i40.toNat) (List.take (i40.toNat) xs0 ++ List.replicate (xs0.length - (i40.toNat)) default))).length from by first | rfl | (simp; done) | (simp; omega)]
    have O4 := (O1.take (i40.toNat))
    obtain rfl := hr.trans H.symm
    exact ⟨A0, c0, rfl, (O4.mono (Nat.zero_le _)), (Mov.same _ _), hB⟩
   obtain ⟨m59, hm60, hJ61⟩ := H
   exact ⟨m59, hm60, (IntKind.wrap .i64 (i21 + 1)), rfl, hJ61, hB, O1⟩
  obtain rfl := hr.trans H.symm
  exact ⟨A0, c0, rfl, (O1.mono (Nat.zero_le _)), (Mov.same _ _), hB⟩
def impl_next.vc (A0 : Option Addr) (n0 : Nat) (c0 : Nat) (x1 : Int) (w : World) (K : Value → World → Prop) : Prop :=
  bcase (x1 == ((n0 : Nat) : Int)) (Run Tryz.prog (Instr.buildSlice 27 0 #[]) w fun v21 w22 => ∃ (A23 : Option Addr) (n24 c25 : Nat), v21 = .slice A23 n24 c25 ∧ K (.slice A23 n24 c25) w22) (((0 : Int) ≤ x1 ∧ x1 < ((n0 : Nat) : Int) ∧ ∃ a26 : Addr, A0 = some a26 ∧ ∃ (n27 : Int), w.cell? ((a26.add ((x1.toNat) * 4)).add 0) = some (.int .i64 n27) ∧ ∃ (n28 : Int), w.cell? ((a26.add ((x1.toNat) * 4)).add 1) = some (.int .i64 n28) ∧ ∃ (n29 : Int), w.cell? ((a26.add ((x1.toNat) * 4)).add 2) = some (.int .i64 n29) ∧ ∃ (n30 : Int), w.cell? ((a26.add ((x1.toNat) * 4)).add 3) = some (.int .i64 n30) ∧ newK w (.cells #[(.int .i64 0), (.int .i64 0), (.int .i64 0), (.int .i64 0)] 91) fun g31 w32 => stCells (⟨g31, 0, none⟩ : Addr) [(.int .i64 n27), (.int .i64 n28), (.int .i64 n29), (.int .i64 n30)] 0 w32 fun w33 => ∃ (n34 : Int), w33.cell? (((⟨g31, 0, none⟩ : Addr).add 0).add 0) = some (.int .i64 n34) ∧ bcase (n34 == 12) (Run Tryz.prog (Instr.buildSlice 27 1 #[(0, (.int .i64 ((n0 : Nat) : Int)))]) w33 fun v35 w36 => ∃ (A37 : Option Addr) (n38 c39 : Nat), v35 = .slice A37 n38 c39 ∧ K (.slice A37 n38 c39) w36) (bcase (n34 == 11) (∃ (n40 : Int), w33.cell? (((⟨g31, 0, none⟩ : Addr).add 2).add 0) = some (.int .i64 n40) ∧ Run Tryz.prog (Instr.buildSlice 27 1 #[(0, (.int .i64 n40))]) w33 fun v41 w42 => ∃ (A43 : Option Addr) (n44 c45 : Nat), v41 = .slice A43 n44 c45 ∧ K (.slice A43 n44 c45) w42) (bcase (n34 == 10) (∃ (n46 : Int), w33.cell? (((⟨g31, 0, none⟩ : Addr).add 2).add 0) = some (.int .i64 n46) ∧ Run Tryz.prog (Instr.buildSlice 27 2 #[(0, (.int .i64 n46)), (1, (.int .i64 (IntKind.wrap .i64 (x1 + 1))))]) w33 fun v47 w48 => ∃ (A49 : Option Addr) (n50 c51 : Nat), v47 = .slice A49 n50 c51 ∧ Cll Tryz.prog 184 #[(.slice A49 n50 c51)] w48 fun v52 w53 => (v52 = (.tuple #[]) ∧ Cll Tryz.prog 185 #[(.slice A49 n50 c51)] w53 fun v54 w55 => (∃ (A56 : Option Addr) (n57 : Nat) (c58 : Nat), v54 = (.slice A56 n57 c58) ∧ K (.slice A56 n57 c58) w55))) (Run Tryz.prog (Instr.buildSlice 27 1 #[(0, (.int .i64 (IntKind.wrap .i64 (x1 + 1))))]) w33 fun v59 w60 => ∃ (A61 : Option Addr) (n62 c63 : Nat), v59 = .slice A61 n62 c63 ∧ K (.slice A61 n62 c63) w60)))))

def impl_next.ann : Ann := (.seq .l (.seq (.seq .l (.two (.seq .l .l) .l)) (.seq (.seq .l (.seq .l (.one (.seq .l (.two (.seq .l .l) (.seq .l (.two (.seq .l .l) (.seq .l (.two (.seq .l (.seq .l (.seq .l .l))) .l))))))))) (.seq .l .l))))

theorem impl_next.con {xs0 : List D.Ins} {A0 : Option Addr} {c0 : Nat} {x1 : Int} {r : List Int} {w : World} (hp : M.impl_next_pre xs0 x1) (hr : r = M.impl_next xs0 x1) (R0 : Row el91 w A0 xs0) (hc0 : xs0.length ≤ c0) :
    Cll Tryz.prog 149 #[(.slice A0 xs0.length c0), (.int .i64 x1)] w (fun v_ w_ => ∃ (A0_ : Option Addr) (c0_ : Nat), v_ = (.slice A0_ r.length c0_) ∧ Own el3 w_ w.heap.size A0_ c0_ r ∧ Ext w w_) := by
  have H := wp.impl_next.math xs0 x1 hp
  have hB := Ext.refl w
  refine beginF mixed (fn := Tryz.f149) (by kernel_rfl) (by kernel_rfl) (an := impl_next.ann) (V := impl_next.vc A0 xs0.length c0 x1) (by kernel_rfl) ?_
  unfold impl_next.vc
  unfold wp.impl_next at H
  refine brc H (fun hc61 H => ?_) (fun hc61 H => ?_)
  ·refine buildOwn el3 ([] : List Int) (fun _ => by kernel_rfl) rfl (fun A21 w22 P2 e23 => ?_)
   have O2 := P2.mono hB.size
   have hB := ethen hB e23
   obtain rfl := hr.trans H.symm
   exact ⟨A21, 0, (by first | rfl | (simp; done) | (simp; omega) | (simp [*]; done)), (by first | exact O2 | (simp only [List.length_set]; exact O2)), hB⟩
  obtain ⟨⟨h0_27, h1_28⟩, H⟩ := H
  obtain ⟨a25, ha26, hat24⟩ := Row.at (R0.ext hB) h0_27 h1_28
  refine ⟨h0_27, h1_28, a25, ha26, _, (hat24 0 _ rfl), _, (hat24 1 _ rfl), _, (hat24 2 _ rfl), _, (hat24 3 _ rfl), ?_⟩
  refine newBlk (fun g3_ w29 L3 P3 e30 => ?_)
  have O3 := P3
  have L3 := Nat.le_trans hB.size L3
  have hB := ethen hB e30
  refine stBlk O3 (o := 0) (cs' := #[(.int .i64 ((rd xs0 x1).Op)), (.int .i64 ((rd xs0 x1).A)), (.int .i64 ((rd xs0 x1).B)), (.int .i64 ((rd xs0 x1).C))]) rfl rfl (Nat.le_of_ble_eq_true rfl) rfl (fun w31 P3 e32 => ?_)
  have hB := echg hB e32 L3
  have O3 := P3
  refine ⟨_, (O3.at 0 rfl rfl), ?_⟩
  refine brc H (fun hc60 H => ?_) (fun hc60 H => ?_)
  ·refine buildOwn el3 ([((xs0.length : Nat) : Int)] : List Int) (fun _ => by kernel_rfl) rfl (fun A33 w34 P4 e35 => ?_)
   have N4_3 := P4.apart_old O3.lt
   have O3 := O3.ext e35
   have O4 := P4.mono hB.size
   have hB := ethen hB e35
   obtain rfl := hr.trans H.symm
   exact ⟨A33, 1, (by first | rfl | (simp; done) | (simp; omega) | (simp [*]; done)), (by first | exact O4 | (simp only [List.length_set]; exact O4)), hB⟩
  refine brc H (fun hc59 H => ?_) (fun hc59 H => ?_)
  ·refine ⟨_, (O3.at 2 rfl rfl), ?_⟩
   refine buildOwn el3 ([(rd xs0 x1).B] : List Int) (fun _ => by kernel_rfl) rfl (fun A36 w37 P5 e38 => ?_)
   have N5_3 := P5.apart_old O3.lt
   have O3 := O3.ext e38
   have O5 := P5.mono hB.size
   have hB := ethen hB e38
   obtain rfl := hr.trans H.symm
   exact ⟨A36, 1, (by first | rfl | (simp; done) | (simp; omega) | (simp [*]; done)), (by first | exact O5 | (simp only [List.length_set]; exact O5)), hB⟩
  refine brc H (fun hc58 H => ?_) (fun hc58 H => ?_)
  ·refine ⟨_, (O3.at 2 rfl rfl), ?_⟩
   refine buildOwn el3 ([(rd xs0 x1).B, (IntKind.wrap .i64 (x1 + 1))] : List Int) (fun _ => by kernel_rfl) rfl (fun A39 w40 P6 e41 => ?_)
   have N6_3 := P6.apart_old O3.lt
   have O3 := O3.ext e41
   have O6 := P6.mono hB.size
   have hB := ethen hB e41
   obtain ⟨hp44, H⟩ := H
   obtain ⟨r42, hr43, H⟩ := callO H
   refine (cllArgs (by first | (simp only [List.length_set]; done) | (simp; done)) (slices_Sort_int_int.con hp44 hr43 (O6.mono (Nat.zero_le _)))).mono ?_
   rintro _ w45 ⟨rfl, Q6, hl47, e46⟩
   have hB := Chg.ext hB e46 O6.low
   have O6 := Q6.up O6
   refine ⟨rfl, ?_⟩
   obtain ⟨hp50, H⟩ := H
   obtain ⟨r48, hr49, H⟩ := callO H
   refine (cllArgs (by first | (simp only [List.length_set, hl47]; done) | (simp; done)) (slices_Compact_int_int.con hp50 hr49 (O6.mono (Nat.zero_le _)))).mono ?_
   rintro _ w51 ⟨A53, c54, rfl, P7, Mv7, e52⟩
   have Lw7 := Mv7.low O6.low hB.size
   have hB := Chg.ext hB e52 O6.low
   have O7 := P7.lift Lw7
   refine ⟨A53, r48.length, c54, rfl, ?_⟩
   obtain rfl := hr.trans H.symm
   exact ⟨A53, c54, rfl, O7, hB⟩
  refine buildOwn el3 ([(IntKind.wrap .i64 (x1 + 1))] : List Int) (fun _ => by kernel_rfl) rfl (fun A55 w56 P8 e57 => ?_)
  have O8 := P8.mono hB.size
  have hB := ethen hB e57
  obtain rfl := hr.trans H.symm
  exact ⟨A55, 1, (by first | rfl | (simp; done) | (simp; omega) | (simp [*]; done)), (by first | exact O8 | (simp only [List.length_set]; exact O8)), hB⟩
def impl_BranchesOf.vc (A0 : Option Addr) (n0 : Nat) (c0 : Nat) (w : World) (K : Value → World → Prop) : Prop :=
  Cll Tryz.prog 73 #[(.slice A0 n0 c0)] w fun v21 w22 => (∃ (b23 : Bool), v21 = (.bool b23) ∧ bcase (!b23) (K (.slice none 0 0) w22) (Run Tryz.prog (Instr.buildSlice 27 0 #[]) w22 fun v24 w25 => ∃ (A26 : Option Addr) (n27 c28 : Nat), v24 = .slice A26 n27 c28 ∧ LoopT (σ := (Option Addr × Nat × Nat) × Int × Unit) (fun z29 w30 next31 => bcase (decide (z29.2.1 < ((n0 : Nat) : Int))) (Cll Tryz.prog 149 #[(.slice A0 n0 c0), (.int .i64 z29.2.1)] w30 fun v32 w33 => (∃ (A34 : Option Addr) (n35 : Nat) (c36 : Nat), v32 = (.slice A34 n35 c36) ∧ bcase (((n35 : Nat) : Int) == 2) (Run Tryz.prog (Instr.buildSlice 27 1 #[(0, (.int .i64 z29.2.1))]) w33 fun v37 w38 => ∃ (A39 : Option Addr) (n40 c41 : Nat), v37 = .slice A39 n40 c41 ∧ Run Tryz.prog (Builtin.append_ #[27, 27] 27 #[(.slice z29.1.1 z29.1.2.1 z29.1.2.2), (.slice A39 n40 c41)]) w38 fun v42 w43 => ∃ (A44 : Option Addr) (n45 c46 : Nat), v42 = .slice A44 n45 c46 ∧ next31 ((A44, n45, c46), (IntKind.wrap .i64 (z29.2.1 + 1)), ()) w43) (next31 ((z29.1.1, z29.1.2.1, z29.1.2.2), (IntKind.wrap .i64 (z29.2.1 + 1)), ()) w33))) (K (.slice z29.1.1 z29.1.2.1 z29.1.2.2) w30)) ((A26, n27, c28), 0, ()) w25))

def impl_BranchesOf.ann : Ann := (.seq .l (.seq (.seq .l (.two (.seq .l .l) .l)) (.seq .l (.seq (.seq .l (.one (.loop [(3, .sl), (11, .int .i64)] (.seq .l (.seq (.two .l .l) (.seq (.one (.seq .l (.seq .l (.two .l .l)))) .l)))))) (.seq .l .l)))))

theorem impl_BranchesOf.con {xs0 : List D.Ins} {A0 : Option Addr} {c0 : Nat} {r : List Int} {w : World} (hp : M.impl_BranchesOf_pre xs0) (hr : r = M.impl_BranchesOf xs0) (R0 : Row el91 w A0 xs0) (hc0 : xs0.length ≤ c0) :
    Cll Tryz.prog 105 #[(.slice A0 xs0.length c0)] w (fun v_ w_ => ∃ (A0_ : Option Addr) (c0_ : Nat), v_ = (.slice A0_ r.length c0_) ∧ Own el3 w_ w.heap.size A0_ c0_ r ∧ Ext w w_) := by
  have H := wp.impl_BranchesOf.math xs0 hp
  have hB := Ext.refl w
  refine beginF mixed (fn := Tryz.f105) (by kernel_rfl) (by kernel_rfl) (an := impl_BranchesOf.ann) (V := impl_BranchesOf.vc A0 xs0.length c0) (by kernel_rfl) ?_
  unfold impl_BranchesOf.vc
  unfold wp.impl_BranchesOf at H
  obtain ⟨hp23, H⟩ := H
  obtain ⟨r21, hr22, H⟩ := callO H
  refine (impl_ProgramOk.con hp23 hr22 (R0.ext hB) hc0).mono ?_
  rintro _ w24 ⟨rfl, e25⟩
  have hB := ethen hB e25
  refine ⟨r21, rfl, ?_⟩
  refine brc H (fun hc65 H => ?_) (fun hc65 H => ?_)
  ·obtain rfl := hr.trans H.symm
   exact ⟨none, 0, rfl, Own.nil, hB⟩
  refine buildOwn el3 ([] : List Int) (fun _ => by kernel_rfl) rfl (fun A26 w27 P2 e28 => ?_)
  have O2 := P2.mono hB.size
  have hB := ethen hB e28
  obtain ⟨J34, ⟨m63, hJ62⟩, hS35⟩ := H
  refine ⟨fun m_ z_ w_ => ∃ (xs29 : List Int) (i32 : Int) (A30 : Option Addr) (c31 : Nat), z_ = ((A30, xs29.length, c31), i32, ()) ∧ J34 m_ (xs29, i32, ()) ∧ Ext w w_ ∧ Own el3 w_ w.heap.size A30 c31 xs29, ⟨m63, ([] : List Int), 0, A26, 0, rfl, hJ62, hB, O2⟩, ?_⟩
  rintro m33 _ w37 ⟨xs29, i32, A30, c31, rfl, hJ64, hB, O3⟩
  have H := hS35 m33 _ hJ64
  clear hS35 hJ64
  try dsimp only at H ⊢
  refine brc H (fun hc60 H => ?_) (fun hc60 H => ?_)
  ·obtain ⟨hp40, H⟩ := H
   obtain ⟨r38, hr39, H⟩ := callO H
   refine (impl_next.con hp40 hr39 (R0.ext hB) hc0).mono ?_
   rintro _ w41 ⟨A43, c44, rfl, P4, e42⟩
   have N3_4 := Own.apart2_new O3 P4 (Nat.le_refl _)
   have O3 := O3.ext e42
   have O4 := P4.mono hB.size
   have hB := ethen hB e42
   refine ⟨A43, r38.length, c44, rfl, ?_⟩
   refine brc H (fun hc59 H => ?_) (fun hc59 H => ?_)
   ·refine buildOwn el3 ([i32] : List Int) (fun _ => by kernel_rfl) rfl (fun A45 w46 P5 e47 => ?_)
    have N3_5 := Own.apart2_new O3 P5 (Nat.le_refl _)
    have O3 := O3.ext e47
    have O5 := P5.mono hB.size
    have hB := ethen hB e47
    obtain ⟨hl52, H⟩ := H
    refine appOwn slt27 slt27.under O3 O5.row hB.size rfl (by first | rfl | omega | (simp; done) | (simp; omega)) hl52 (fun A48 c49 w50 P3 e51 => ?_)
    have N5_3_ := Apart2.app (N3_5).symm e51 O5
    have O5 := O5.app e51 (N3_5).symm
    have N5_3 := N5_3_
    have hB := eapp hB e51 O3
    have O3 := P3
    obtain ⟨m53, hm54, hJ55⟩ := H
    exact ⟨m53, hm54, (xs29 ++ ([i32] : List Int)), (IntKind.wrap .i64 (i32 + 1)), A48, c49, rfl, hJ55, hB, O3⟩
   obtain ⟨m56, hm57, hJ58⟩ := H
   exact ⟨m56, hm57, xs29, (IntKind.wrap .i64 (i32 + 1)), A30, c31, rfl, hJ58, hB, O3⟩
  obtain rfl := hr.trans H.symm
  exact ⟨A30, c31, rfl, O3, hB⟩
def impl_isBranch.vc (A0 : Option Addr) (n0 : Nat) (c0 : Nat) (x1 : Int) (w : World) (K : Value → World → Prop) : Prop :=
  Cll Tryz.prog 105 #[(.slice A0 n0 c0)] w fun v21 w22 => (∃ (A23 : Option Addr) (n24 : Nat) (c25 : Nat), v21 = (.slice A23 n24 c25) ∧ Cll Tryz.prog 120 #[(.slice A23 n24 c25), (.int .i64 x1)] w22 fun v26 w27 => (∃ (b28 : Bool), v26 = (.bool b28) ∧ K (.bool b28) w27))

def impl_isBranch.ann : Ann := (.seq .l (.seq .l .l))

theorem impl_isBranch.con {xs0 : List D.Ins} {A0 : Option Addr} {c0 : Nat} {x1 : Int} {r : Bool} {w : World} (hp : M.impl_isBranch_pre xs0 x1) (hr : r = M.impl_isBranch xs0 x1) (R0 : Row el91 w A0 xs0) (hc0 : xs0.length ≤ c0) :
    Cll Tryz.prog 150 #[(.slice A0 xs0.length c0), (.int .i64 x1)] w (fun v_ w_ => v_ = (.bool r) ∧ Ext w w_) := by
  have H := wp.impl_isBranch.math xs0 x1 hp
  have hB := Ext.refl w
  refine beginF mixed (fn := Tryz.f150) (by kernel_rfl) (by kernel_rfl) (an := impl_isBranch.ann) (V := impl_isBranch.vc A0 xs0.length c0 x1) (by kernel_rfl) ?_
  unfold impl_isBranch.vc
  unfold wp.impl_isBranch at H
  obtain ⟨hp23, H⟩ := H
  obtain ⟨r21, hr22, H⟩ := callO H
  refine (impl_BranchesOf.con hp23 hr22 (R0.ext hB) hc0).mono ?_
  rintro _ w24 ⟨A26, c27, rfl, P2, e25⟩
  have O2 := P2.mono hB.size
  have hB := ethen hB e25
  refine ⟨A26, r21.length, c27, rfl, ?_⟩
  obtain ⟨hp30, H⟩ := H
  obtain ⟨r28, hr29, H⟩ := callO H
  refine (slices_Contains_int_int.con hp30 hr29 O2.row O2.le).mono ?_
  rintro _ w31 ⟨rfl, e32⟩
  have O2 := O2.ext e32
  have hB := ethen hB e32
  refine ⟨r28, rfl, ?_⟩
  obtain rfl := hr.trans H.symm
  exact ⟨rfl, hB⟩
def impl_reached.vc (A0 : Option Addr) (n0 : Nat) (c0 : Nat) (A1 : Option Addr) (n1 : Nat) (c1 : Nat) (x2 : Int) (w : World) (K : Value → World → Prop) : Prop :=
  vcMake Tryz.prog 147 (IntKind.wrap .i64 (((n0 : Nat) : Int) + 1)) (IntKind.wrap .i64 (((n0 : Nat) : Int) + 1)) w fun g21 w22 => Cll Tryz.prog 139 #[(.slice A1 n1 c1)] w22 fun v23 w24 => (∃ (A25 : Option Addr) (n26 : Nat) (c27 : Nat), v23 = (.slice A25 n26 c27) ∧ LoopT (σ := (Option Addr × Nat × Nat) × Unit) (fun z28 w29 next30 => bcase (decide (((z28.1.2.1 : Nat) : Int) > 0)) (((0 : Int) ≤ 0 ∧ 0 < ((z28.1.2.1 : Nat) : Int) ∧ ∃ a31 : Addr, z28.1.1 = some a31 ∧ ∃ (n32 : Int), w29.cell? ((a31.add (((0 : Int).toNat) * 1)).add 0) = some (.int .i64 n32) ∧ ((0 : Int) ≤ 1 ∧ 1 ≤ ((z28.1.2.1 : Nat) : Int) ∧ bcase (n32 == x2) (next30 (((if z28.1.2.2 = ((1 : Int).toNat) then z28.1.1 else z28.1.1.map (·.add (((1 : Int).toNat) * szOf Tryz.prog 3))), (z28.1.2.1 - ((1 : Int).toNat)), (z28.1.2.2 - ((1 : Int).toNat))), ()) w29) (((0 : Int) ≤ n32 ∧ n32 < ((((IntKind.wrap .i64 (((n0 : Nat) : Int) + 1)).toNat) : Nat) : Int) ∧ ∃ a34 : Addr, (some (⟨g21, 0, none⟩ : Addr)) = some a34 ∧ ∃ (b35 : Bool), w29.cell? ((a34.add ((n32.toNat) * 1)).add 0) = some (.bool b35) ∧ bcase b35 (next30 (((if z28.1.2.2 = ((1 : Int).toNat) then z28.1.1 else z28.1.1.map (·.add (((1 : Int).toNat) * szOf Tryz.prog 3))), (z28.1.2.1 - ((1 : Int).toNat)), (z28.1.2.2 - ((1 : Int).toNat))), ()) w29) (((0 : Int) ≤ n32 ∧ n32 < ((((IntKind.wrap .i64 (((n0 : Nat) : Int) + 1)).toNat) : Nat) : Int) ∧ ∃ a36 : Addr, (some (⟨g21, 0, none⟩ : Addr)) = some a36 ∧ stCells (a36.add ((n32.toNat) * 1)) [(.bool true)] 0 w29 fun w37 => Cll Tryz.prog 149 #[(.slice A0 n0 c0), (.int .i64 n32)] w37 fun v38 w39 => (∃ (A40 : Option Addr) (n41 : Nat) (c42 : Nat), v38 = (.slice A40 n41 c42) ∧ Run Tryz.prog (Builtin.append_ #[27, 27] 27 #[(.slice (if z28.1.2.2 = ((1 : Int).toNat) then z28.1.1 else z28.1.1.map (·.add (((1 : Int).toNat) * szOf Tryz.prog 3))) (z28.1.2.1 - ((1 : Int).toNat)) (z28.1.2.2 - ((1 : Int).toNat))), (.slice A40 n41 c42)]) w39 fun v43 w44 => ∃ (A45 : Option Addr) (n46 c47 : Nat), v43 = .slice A45 n46 c47 ∧ next30 ((A45, n46, c47), ()) w44)))))))) (K (.slice (some (⟨g21, 0, none⟩ : Addr)) ((IntKind.wrap .i64 (((n0 : Nat) : Int) + 1)).toNat) ((IntKind.wrap .i64 (((n0 : Nat) : Int) + 1)).toNat)) w29)) ((A25, n26, c27), ()) w24)

def impl_reached.ann : Ann := (.seq .l (.seq .l (.seq .l (.seq (.one (.loop [(8, .sl)] (.seq (.seq .l (.two .l .l)) (.one (.seq .l (.seq .l (.seq (.seq .l (.two .l .l)) (.seq .l .l)))))))) (.seq .l .l)))))

theorem impl_reached.con {xs0 : List D.Ins} {A0 : Option Addr} {c0 : Nat} {xs1 : List Int} {A1 : Option Addr} {c1 : Nat} {x2 : Int} {r : List Bool} {w : World} (hp : M.impl_reached_pre xs0 xs1 x2) (hr : r = M.impl_reached xs0 xs1 x2) (R0 : Row el91 w A0 xs0) (hc0 : xs0.length ≤ c0) (R1 : Row el3 w A1 xs1) (hc1 : xs1.length ≤ c1) :
    Cll Tryz.prog 152 #[(.slice A0 xs0.length c0), (.slice A1 xs1.length c1), (.int .i64 x2)] w (fun v_ w_ => ∃ (A0_ : Option Addr) (c0_ : Nat), v_ = (.slice A0_ r.length c0_) ∧ Own el4 w_ w.heap.size A0_ c0_ r ∧ Ext w w_) := by
  have H := wp.impl_reached.math xs0 xs1 x2 hp
  have hB := Ext.refl w
  refine beginF mixed (fn := Tryz.f152) (by kernel_rfl) (by kernel_rfl) (an := impl_reached.ann) (V := impl_reached.vc A0 xs0.length c0 A1 xs1.length c1 x2) (by kernel_rfl) ?_
  unfold impl_reached.vc
  unfold wp.impl_reached at H
  obtain ⟨⟨h0_24, h1_25⟩, H⟩ := H
  refine makeOwn slt147 h0_24 h1_25 (fun g21 w22 P3 e23 => ?_)
  have O3 := P3.mono hB.size
  have hB := ethen hB e23
  obtain ⟨hp28, H⟩ := H
  obtain ⟨r26, hr27, H⟩ := callO H
  refine (slices_Clone_int_int.con hp28 hr27 (R1.ext hB) hc1).mono ?_
  rintro _ w29 ⟨A31, c32, rfl, P4, e30⟩
  have N3_4 := Own.apart2_new O3 P4 (Nat.le_refl _)
  have O3 := O3.ext e30
  have O4 := P4.mono hB.size
  have hB := ethen hB e30
  refine ⟨A31, r26.length, c32, rfl, ?_⟩
  obtain ⟨J85, ⟨m135, hJ134⟩, hS86⟩ := H
  refine ⟨fun m_ z_ w_ => ∃ (xs79 : List Int) (xs82 : List Bool) (A80 : Option Addr) (c81 : Nat), z_ = ((A80, xs79.length, c81), ()) ∧ J85 m_ (xs79, xs82, ()) ∧ Ext w w_ ∧ Own el3 w_ w.heap.size A80 c81 xs79 ∧ Own el4 w_ w.heap.size (some (⟨g21, 0, none⟩ : Addr)) ((IntKind.wrap .i64 (((xs0.length : Nat) : Int) + 1)).toNat) xs82 ∧ ((IntKind.wrap .i64 (((xs0.length : Nat) : Int) + 1)).toNat) = xs82.length, ⟨m135, r26, (List.replicate ((IntKind.wrap .i64 (((xs0.length : Nat) : Int) + 1)).toNat) (default : Bool)), A31, c32, rfl, hJ134, hB, O4, O3, (by first | rfl | assumption | omega | (simp; done) | (simp; omega) | (simp; assumption))⟩, ?_⟩
  rintro m84 _ w88 ⟨xs79, xs82, A80, c81, rfl, hJ136, hB, O8, O3, hn83⟩
  have H := hS86 m84 _ hJ136
  clear hS86 hJ136
  try dsimp only at H ⊢
  refine brc H (fun hc132 H => ?_) (fun hc132 H => ?_)
  ·obtain ⟨⟨h0_92, h1_93⟩, H⟩ := H
   obtain ⟨a90, ha91, hat89⟩ := Row.at O8.row h0_92 h1_93
   refine ⟨h0_92, h1_93, a90, ha91, _, (hat89 0 _ rfl), ?_⟩
   obtain ⟨⟨hl94, hl95⟩, H⟩ := H
   refine and_assoc.1 ⟨⟨hl94, hl95⟩, ?_⟩
   rw [show (xs79.length - ((1 : Int).toNat)) = ((List.drop ((1 : Int).toNat) xs79)).length from by first | rfl | (simp; done) | (simp; omega)]
   have O9 := (O8.drop (l := ((1 : Int).toNat)) (by first | omega | (simp; done) | (simp; omega)))
   refine brc H (fun hc131 H => ?_) (fun hc131 H => ?_)
   ·obtain ⟨m96, hm97, hJ98⟩ := H
    exact ⟨m96, hm97, (List.drop ((1 : Int).toNat) xs79), xs82, (cutA c81 ((1 : Int).toNat) A80 1), (c81 - ((1 : Int).toNat)), rfl, hJ98, hB, O9, O3, (by first | rfl | assumption | omega | (simp; done) | (simp; omega) | (simp; assumption))⟩
   obtain ⟨⟨h0_102, h1_103⟩, H⟩ := H
   obtain ⟨a100, ha101, hat99⟩ := Row.at O3.row h0_102 h1_103
   refine ⟨h0_102, (by first | exact h1_103 | omega | (simp at h1_103 ⊢; omega)), a100, ha101, _, (hat99 0 _ rfl), ?_⟩
   refine brc H (fun hc130 H => ?_) (fun hc130 H => ?_)
   ·obtain ⟨m104, hm105, hJ106⟩ := H
    exact ⟨m104, hm105, (List.drop ((1 : Int).toNat) xs79), xs82, (cutA c81 ((1 : Int).toNat) A80 1), (c81 - ((1 : Int).toNat)), rfl, hJ106, hB, O9, O3, (by first | rfl | assumption | omega | (simp; done) | (simp; omega) | (simp; assumption))⟩
   obtain ⟨⟨h0_110, h1_111⟩, H⟩ := H
   obtain ⟨a108, ha109, hat107⟩ := Row.at O3.row h0_110 h1_111
   refine ⟨h0_110, (by first | exact h1_111 | omega | (simp at h1_111 ⊢; omega)), a108, ha109, ?_⟩
   refine Own.storeAt O3 ha109 h0_110 h1_111 0 [(.bool true)] true rfl (Nat.le_of_ble_eq_true rfl) rfl (fun w112 P3 e113 hb114 => ?_)
   have O8_ := O8.chg e113 (((Own.apart2_type O8 O3 (by decide))).left ha109)
   have O9_ := O9.chg e113 (((cutApart2 (Own.apart2_type O8 O3 (by decide)))).left ha109)
   have O8 := O8_
   have O9 := O9_
   have hB := echg hB e113 hb114
   have O3 := P3
   obtain ⟨hp117, H⟩ := H
   obtain ⟨r115, hr116, H⟩ := callO H
   refine (impl_next.con hp117 hr116 (R0.ext hB) hc0).mono ?_
   rintro _ w118 ⟨A120, c121, rfl, P10, e119⟩
   have N3_10 := Own.apart2_new O3 P10 (Nat.le_refl _)
   have N8_10 := Own.apart2_new O8 P10 (Nat.le_refl _)
   have N9_10 := Own.apart2_new O9 P10 (Nat.le_refl _)
   have O3 := O3.ext e119
   have O8 := O8.ext e119
   have O9 := O9.ext e119
   have O10 := P10.mono hB.size
   have hB := ethen hB e119
   refine ⟨A120, r115.length, c121, rfl, ?_⟩
   obtain ⟨hl126, H⟩ := H
   refine appOwn slt27 slt27.under O9 O10.row hB.size rfl rfl hl126 (fun A122 c123 w124 P9 e125 => ?_)
   have N3_9_ := Apart2.app (cutApart2 (Own.apart2_type O3 O8 (by decide)).symm).symm e125 O3
   have O3 := O3.app e125 (cutApart2 (Own.apart2_type O3 O8 (by decide)).symm).symm
   have N10_9_ := Apart2.app (N9_10).symm e125 O10
   have O10 := O10.app e125 (N9_10).symm
   have N3_9 := N3_9_
   have N10_9 := N10_9_
   have hB := eapp hB e125 O9
   have O9 := P9
   obtain ⟨m127, hm128, hJ129⟩ := H
   exact ⟨m127, hm128, ((List.drop ((1 : Int).toNat) xs79) ++ r115), (List.set xs82 ((rd xs79 0).toNat) true), A122, c123, rfl, hJ129, hB, O9, O3, (by first | rfl | assumption | omega | (simp; done) | (simp; omega) | (simp; assumption))⟩
  obtain rfl := hr.trans H.symm
  exact ⟨(some (⟨g21, 0, none⟩ : Addr)), ((IntKind.wrap .i64 (((xs0.length : Nat) : Int) + 1)).toNat), (by first | rfl | (rw [hn83]; done) | (simp; done) | (simp; omega) | (simp [*]; done)), (by first | exact O3 | (simp only [List.length_set]; exact O3) | (rw [← hn83]; exact O3)), hB⟩
def impl_reachesExit.vc (A0 : Option Addr) (n0 : Nat) (c0 : Nat) (x1 : Int) (w : World) (K : Value → World → Prop) : Prop :=
  Run Tryz.prog (Instr.buildSlice 27 1 #[(0, (.int .i64 x1))]) w fun v21 w22 => ∃ (A23 : Option Addr) (n24 c25 : Nat), v21 = .slice A23 n24 c25 ∧ Cll Tryz.prog 152 #[(.slice A0 n0 c0), (.slice A23 n24 c25), (.int .i64 (-1))] w22 fun v26 w27 => (∃ (A28 : Option Addr) (n29 : Nat) (c30 : Nat), v26 = (.slice A28 n29 c30) ∧ ((0 : Int) ≤ ((n0 : Nat) : Int) ∧ ((n0 : Nat) : Int) < ((n29 : Nat) : Int) ∧ ∃ a31 : Addr, A28 = some a31 ∧ ∃ (b32 : Bool), w27.cell? ((a31.add ((((n0 : Nat) : Int).toNat) * 1)).add 0) = some (.bool b32) ∧ K (.bool b32) w27))

def impl_reachesExit.ann : Ann := (.seq .l (.seq .l .l))

theorem impl_reachesExit.con {xs0 : List D.Ins} {A0 : Option Addr} {c0 : Nat} {x1 : Int} {r : Bool} {w : World} (hp : M.impl_reachesExit_pre xs0 x1) (hr : r = M.impl_reachesExit xs0 x1) (R0 : Row el91 w A0 xs0) (hc0 : xs0.length ≤ c0) :
    Cll Tryz.prog 186 #[(.slice A0 xs0.length c0), (.int .i64 x1)] w (fun v_ w_ => v_ = (.bool r) ∧ Ext w w_) := by
  have H := wp.impl_reachesExit.math xs0 x1 hp
  have hB := Ext.refl w
  refine beginF mixed (fn := Tryz.f186) (by kernel_rfl) (by kernel_rfl) (an := impl_reachesExit.ann) (V := impl_reachesExit.vc A0 xs0.length c0 x1) (by kernel_rfl) ?_
  unfold impl_reachesExit.vc
  unfold wp.impl_reachesExit at H
  refine buildOwn el3 ([x1] : List Int) (fun _ => by kernel_rfl) rfl (fun A21 w22 P2 e23 => ?_)
  have O2 := P2.mono hB.size
  have hB := ethen hB e23
  obtain ⟨hp26, H⟩ := H
  obtain ⟨r24, hr25, H⟩ := callO H
  refine (cllArgs (by first | (simp only [List.length_set]; done) | (simp; done)) (impl_reached.con hp26 hr25 (R0.ext hB) hc0 O2.row O2.le)).mono ?_
  rintro _ w27 ⟨A29, c30, rfl, P3, e28⟩
  have N2_3 := Own.apart2_new O2 P3 (Nat.le_refl _)
  have O2 := O2.ext e28
  have O3 := P3.mono hB.size
  have hB := ethen hB e28
  refine ⟨A29, r24.length, c30, rfl, ?_⟩
  obtain ⟨⟨h0_34, h1_35⟩, H⟩ := H
  obtain ⟨a32, ha33, hat31⟩ := Row.at O3.row h0_34 h1_35
  refine ⟨h0_34, h1_35, a32, ha33, _, (hat31 0 _ rfl), ?_⟩
  obtain rfl := hr.trans H.symm
  exact ⟨rfl, hB⟩
def impl_isNode.vc (A0 : Option Addr) (n0 : Nat) (c0 : Nat) (x1 : Int) (w : World) (K : Value → World → Prop) : Prop :=
  Cll Tryz.prog 73 #[(.slice A0 n0 c0)] w fun v21 w22 => (∃ (b23 : Bool), v21 = (.bool b23) ∧ bcase b23 (Cll Tryz.prog 58 #[(.int .i64 x1), (.int .i64 0), (.int .i64 ((n0 : Nat) : Int))] w22 fun v24 w25 => (∃ (b26 : Bool), v24 = (.bool b26) ∧ K (.bool b26) w25)) (K (.bool false) w22))

def impl_isNode.ann : Ann := (.seq .l (.seq .l .l))

theorem impl_isNode.con {xs0 : List D.Ins} {A0 : Option Addr} {c0 : Nat} {x1 : Int} {r : Bool} {w : World} (hp : M.impl_isNode_pre xs0 x1) (hr : r = M.impl_isNode xs0 x1) (R0 : Row el91 w A0 xs0) (hc0 : xs0.length ≤ c0) :
    Cll Tryz.prog 260 #[(.slice A0 xs0.length c0), (.int .i64 x1)] w (fun v_ w_ => v_ = (.bool r) ∧ Ext w w_) := by
  have H := wp.impl_isNode.math xs0 x1 hp
  have hB := Ext.refl w
  refine beginF mixed (fn := Tryz.f260) (by kernel_rfl) (by kernel_rfl) (an := impl_isNode.ann) (V := impl_isNode.vc A0 xs0.length c0 x1) (by kernel_rfl) ?_
  unfold impl_isNode.vc
  unfold wp.impl_isNode at H
  obtain ⟨hp23, H⟩ := H
  obtain ⟨r21, hr22, H⟩ := callO H
  refine (impl_ProgramOk.con hp23 hr22 (R0.ext hB) hc0).mono ?_
  rintro _ w24 ⟨rfl, e25⟩
  have hB := ethen hB e25
  refine ⟨r21, rfl, ?_⟩
  refine brc H (fun hc31 H => ?_) (fun hc31 H => ?_)
  ·obtain ⟨r26, hr27, H⟩ := callO H
   refine (impl_within.con hr27 ).mono ?_
   rintro _ w29 ⟨rfl, e30⟩
   have hB := ethen hB e30
   refine ⟨r26, rfl, ?_⟩
   obtain rfl := hr.trans H.symm
   exact ⟨rfl, hB⟩
  obtain rfl := hr.trans H.symm
  exact ⟨rfl, hB⟩
def impl_isAfter.vc (A0 : Option Addr) (n0 : Nat) (c0 : Nat) (x1 : Int) (x2 : Int) (w : World) (K : Value → World → Prop) : Prop :=
  Cll Tryz.prog 186 #[(.slice A0 n0 c0), (.int .i64 x1)] w fun v21 w22 => (∃ (b23 : Bool), v21 = (.bool b23) ∧ bcase b23 (Run Tryz.prog (Instr.buildSlice 27 1 #[(0, (.int .i64 x1))]) w22 fun v24 w25 => ∃ (A26 : Option Addr) (n27 c28 : Nat), v24 = .slice A26 n27 c28 ∧ Cll Tryz.prog 152 #[(.slice A0 n0 c0), (.slice A26 n27 c28), (.int .i64 x2)] w25 fun v29 w30 => (∃ (A31 : Option Addr) (n32 : Nat) (c33 : Nat), v29 = (.slice A31 n32 c33) ∧ ((0 : Int) ≤ ((n0 : Nat) : Int) ∧ ((n0 : Nat) : Int) < ((n32 : Nat) : Int) ∧ ∃ a34 : Addr, A31 = some a34 ∧ ∃ (b35 : Bool), w30.cell? ((a34.add ((((n0 : Nat) : Int).toNat) * 1)).add 0) = some (.bool b35) ∧ K (.bool (!b35)) w30))) (K (.bool false) w22))

def impl_isAfter.ann : Ann := (.seq .l (.seq .l .l))

theorem impl_isAfter.con {xs0 : List D.Ins} {A0 : Option Addr} {c0 : Nat} {x1 : Int} {x2 : Int} {r : Bool} {w : World} (hp : M.impl_isAfter_pre xs0 x1 x2) (hr : r = M.impl_isAfter xs0 x1 x2) (R0 : Row el91 w A0 xs0) (hc0 : xs0.length ≤ c0) :
    Cll Tryz.prog 245 #[(.slice A0 xs0.length c0), (.int .i64 x1), (.int .i64 x2)] w (fun v_ w_ => v_ = (.bool r) ∧ Ext w w_) := by
  have H := wp.impl_isAfter.math xs0 x1 x2 hp
  have hB := Ext.refl w
  refine beginF mixed (fn := Tryz.f245) (by kernel_rfl) (by kernel_rfl) (an := impl_isAfter.ann) (V := impl_isAfter.vc A0 xs0.length c0 x1 x2) (by kernel_rfl) ?_
  unfold impl_isAfter.vc
  unfold wp.impl_isAfter at H
  obtain ⟨hp23, H⟩ := H
  obtain ⟨r21, hr22, H⟩ := callO H
  refine (impl_reachesExit.con hp23 hr22 (R0.ext hB) hc0).mono ?_
  rintro _ w24 ⟨rfl, e25⟩
  have hB := ethen hB e25
  refine ⟨r21, rfl, ?_⟩
  refine brc H (fun hc41 H => ?_) (fun hc41 H => ?_)
  ·refine buildOwn el3 ([x1] : List Int) (fun _ => by kernel_rfl) rfl (fun A26 w27 P2 e28 => ?_)
   have O2 := P2.mono hB.size
   have hB := ethen hB e28
   obtain ⟨hp31, H⟩ := H
   obtain ⟨r29, hr30, H⟩ := callO H
   refine (cllArgs (by first | (simp only [List.length_set]; done) | (simp; done)) (impl_reached.con hp31 hr30 (R0.ext hB) hc0 O2.row O2.le)).mono ?_
   rintro _ w32 ⟨A34, c35, rfl, P3, e33⟩
   have N2_3 := Own.apart2_new O2 P3 (Nat.le_refl _)
   have O2 := O2.ext e33
   have O3 := P3.mono hB.size
   have hB := ethen hB e33
   refine ⟨A34, r29.length, c35, rfl, ?_⟩
   obtain ⟨⟨h0_39, h1_40⟩, H⟩ := H
   obtain ⟨a37, ha38, hat36⟩ := Row.at O3.row h0_39 h1_40
   refine ⟨h0_39, h1_40, a37, ha38, _, (hat36 0 _ rfl), ?_⟩
   obtain rfl := hr.trans H.symm
   exact ⟨rfl, hB⟩
  obtain rfl := hr.trans H.symm
  exact ⟨rfl, hB⟩
def impl_IsAfter.vc (A0 : Option Addr) (n0 : Nat) (c0 : Nat) (x1 : Int) (x2 : Int) (w : World) (K : Value → World → Prop) : Prop :=
  Cll Tryz.prog 260 #[(.slice A0 n0 c0), (.int .i64 x1)] w fun v21 w22 => (∃ (b23 : Bool), v21 = (.bool b23) ∧ bcase b23 (Cll Tryz.prog 260 #[(.slice A0 n0 c0), (.int .i64 x2)] w22 fun v24 w25 => (∃ (b26 : Bool), v24 = (.bool b26) ∧ bcase b26 (Cll Tryz.prog 245 #[(.slice A0 n0 c0), (.int .i64 x1), (.int .i64 x2)] w25 fun v27 w28 => (∃ (b29 : Bool), v27 = (.bool b29) ∧ K (.bool b29) w28)) (K (.bool false) w25))) (K (.bool false) w22))

def impl_IsAfter.ann : Ann := (.seq .l (.seq .l .l))

theorem impl_IsAfter.con {xs0 : List D.Ins} {A0 : Option Addr} {c0 : Nat} {x1 : Int} {x2 : Int} {r : Bool} {w : World} (hp : M.impl_IsAfter_pre xs0 x1 x2) (hr : r = M.impl_IsAfter xs0 x1 x2) (R0 : Row el91 w A0 xs0) (hc0 : xs0.length ≤ c0) :
    Cll Tryz.prog 246 #[(.slice A0 xs0.length c0), (.int .i64 x1), (.int .i64 x2)] w (fun v_ w_ => v_ = (.bool r) ∧ Ext w w_) := by
  have H := wp.impl_IsAfter.math xs0 x1 x2 hp
  have hB := Ext.refl w
  refine beginF mixed (fn := Tryz.f246) (by kernel_rfl) (by kernel_rfl) (an := impl_IsAfter.ann) (V := impl_IsAfter.vc A0 xs0.length c0 x1 x2) (by kernel_rfl) ?_
  unfold impl_IsAfter.vc
  unfold wp.impl_IsAfter at H
  obtain ⟨hp23, H⟩ := H
  obtain ⟨r21, hr22, H⟩ := callO H
  refine (impl_isNode.con hp23 hr22 (R0.ext hB) hc0).mono ?_
  rintro _ w24 ⟨rfl, e25⟩
  have hB := ethen hB e25
  refine ⟨r21, rfl, ?_⟩
  refine brc H (fun hc37 H => ?_) (fun hc37 H => ?_)
  ·obtain ⟨hp28, H⟩ := H
   obtain ⟨r26, hr27, H⟩ := callO H
   refine (impl_isNode.con hp28 hr27 (R0.ext hB) hc0).mono ?_
   rintro _ w29 ⟨rfl, e30⟩
   have hB := ethen hB e30
   refine ⟨r26, rfl, ?_⟩
   refine brc H (fun hc36 H => ?_) (fun hc36 H => ?_)
   ·obtain ⟨hp33, H⟩ := H
    obtain ⟨r31, hr32, H⟩ := callO H
    refine (impl_isAfter.con hp33 hr32 (R0.ext hB) hc0).mono ?_
    rintro _ w34 ⟨rfl, e35⟩
    have hB := ethen hB e35
    refine ⟨r31, rfl, ?_⟩
    obtain rfl := hr.trans H.symm
    exact ⟨rfl, hB⟩
   obtain rfl := hr.trans H.symm
   exact ⟨rfl, hB⟩
  obtain rfl := hr.trans H.symm
  exact ⟨rfl, hB⟩
def impl_AftersOf.vc (A0 : Option Addr) (n0 : Nat) (c0 : Nat) (x1 : Int) (w : World) (K : Value → World → Prop) : Prop :=
  Run Tryz.prog (Instr.buildSlice 27 0 #[]) w fun v21 w22 => ∃ (A23 : Option Addr) (n24 c25 : Nat), v21 = .slice A23 n24 c25 ∧ LoopT (σ := (Option Addr × Nat × Nat) × Int × Unit) (fun z26 w27 next28 => bcase (decide (z26.2.1 < (IntKind.wrap .i64 (((n0 : Nat) : Int) + 1)))) (Cll Tryz.prog 246 #[(.slice A0 n0 c0), (.int .i64 x1), (.int .i64 z26.2.1)] w27 fun v29 w30 => (∃ (b31 : Bool), v29 = (.bool b31) ∧ bcase b31 (Run Tryz.prog (Instr.buildSlice 27 1 #[(0, (.int .i64 z26.2.1))]) w30 fun v32 w33 => ∃ (A34 : Option Addr) (n35 c36 : Nat), v32 = .slice A34 n35 c36 ∧ Run Tryz.prog (Builtin.append_ #[27, 27] 27 #[(.slice z26.1.1 z26.1.2.1 z26.1.2.2), (.slice A34 n35 c36)]) w33 fun v37 w38 => ∃ (A39 : Option Addr) (n40 c41 : Nat), v37 = .slice A39 n40 c41 ∧ next28 ((A39, n40, c41), (IntKind.wrap .i64 (z26.2.1 + 1)), ()) w38) (next28 ((z26.1.1, z26.1.2.1, z26.1.2.2), (IntKind.wrap .i64 (z26.2.1 + 1)), ()) w30))) (K (.slice z26.1.1 z26.1.2.1 z26.1.2.2) w27)) ((A23, n24, c25), 0, ()) w22

def impl_AftersOf.ann : Ann := (.seq .l (.seq .l (.seq (.seq .l (.one (.loop [(5, .sl), (11, .int .i64)] (.seq .l (.seq (.two .l .l) (.seq (.one (.seq .l (.seq .l (.two .l .l)))) .l)))))) (.seq .l .l))))

theorem impl_AftersOf.con {xs0 : List D.Ins} {A0 : Option Addr} {c0 : Nat} {x1 : Int} {r : List Int} {w : World} (hp : M.impl_AftersOf_pre xs0 x1) (hr : r = M.impl_AftersOf xs0 x1) (R0 : Row el91 w A0 xs0) (hc0 : xs0.length ≤ c0) :
    Cll Tryz.prog 210 #[(.slice A0 xs0.length c0), (.int .i64 x1)] w (fun v_ w_ => ∃ (A0_ : Option Addr) (c0_ : Nat), v_ = (.slice A0_ r.length c0_) ∧ Own el3 w_ w.heap.size A0_ c0_ r ∧ Ext w w_) := by
  have H := wp.impl_AftersOf.math xs0 x1 hp
  have hB := Ext.refl w
  refine beginF mixed (fn := Tryz.f210) (by kernel_rfl) (by kernel_rfl) (an := impl_AftersOf.ann) (V := impl_AftersOf.vc A0 xs0.length c0 x1) (by kernel_rfl) ?_
  unfold impl_AftersOf.vc
  unfold wp.impl_AftersOf at H
  refine buildOwn el3 ([] : List Int) (fun _ => by kernel_rfl) rfl (fun A21 w22 P2 e23 => ?_)
  have O2 := P2.mono hB.size
  have hB := ethen hB e23
  obtain ⟨J29, ⟨m56, hJ55⟩, hS30⟩ := H
  refine ⟨fun m_ z_ w_ => ∃ (xs24 : List Int) (i27 : Int) (A25 : Option Addr) (c26 : Nat), z_ = ((A25, xs24.length, c26), i27, ()) ∧ J29 m_ (xs24, i27, ()) ∧ Ext w w_ ∧ Own el3 w_ w.heap.size A25 c26 xs24, ⟨m56, ([] : List Int), 0, A21, 0, rfl, hJ55, hB, O2⟩, ?_⟩
  rintro m28 _ w32 ⟨xs24, i27, A25, c26, rfl, hJ57, hB, O3⟩
  have H := hS30 m28 _ hJ57
  clear hS30 hJ57
  try dsimp only at H ⊢
  refine brc H (fun hc53 H => ?_) (fun hc53 H => ?_)
  ·obtain ⟨hp35, H⟩ := H
   obtain ⟨r33, hr34, H⟩ := callO H
   refine (impl_IsAfter.con hp35 hr34 (R0.ext hB) hc0).mono ?_
   rintro _ w36 ⟨rfl, e37⟩
   have O3 := O3.ext e37
   have hB := ethen hB e37
   refine ⟨r33, rfl, ?_⟩
   refine brc H (fun hc52 H => ?_) (fun hc52 H => ?_)
   ·refine buildOwn el3 ([i27] : List Int) (fun _ => by kernel_rfl) rfl (fun A38 w39 P4 e40 => ?_)
    have N3_4 := Own.apart2_new O3 P4 (Nat.le_refl _)
    have O3 := O3.ext e40
    have O4 := P4.mono hB.size
    have hB := ethen hB e40
    obtain ⟨hl45, H⟩ := H
    refine appOwn slt27 slt27.under O3 O4.row hB.size rfl (by first | rfl | omega | (simp; done) | (simp; omega)) hl45 (fun A41 c42 w43 P3 e44 => ?_)
    have N4_3_ := Apart2.app (N3_4).symm e44 O4
    have O4 := O4.app e44 (N3_4).symm
    have N4_3 := N4_3_
    have hB := eapp hB e44 O3
    have O3 := P3
    obtain ⟨m46, hm47, hJ48⟩ := H
    exact ⟨m46, hm47, (xs24 ++ ([i27] : List Int)), (IntKind.wrap .i64 (i27 + 1)), A41, c42, rfl, hJ48, hB, O3⟩
   obtain ⟨m49, hm50, hJ51⟩ := H
   exact ⟨m49, hm50, xs24, (IntKind.wrap .i64 (i27 + 1)), A25, c26, rfl, hJ51, hB, O3⟩
  obtain rfl := hr.trans H.symm
  exact ⟨A25, c26, rfl, O3, hB⟩
def impl_FirstAfter_1.vc (x0 : Int) (p1 : Addr) (w : World) (K : Value → World → Prop) : Prop :=
  ∃ (n21 : Int), w.cell? (p1.add 0) = some (.int .i64 n21) ∧ K (.bool (x0 == n21)) w

def impl_FirstAfter_1.ann : Ann := (.seq .l (.seq .l .l))

theorem impl_FirstAfter_1.con {x0 : Int} {x1 : Int} {g1_ : Nat} {r : Bool} {w : World} (hp : M.impl_FirstAfter_1_pre x0 x1) (hr : r = M.impl_FirstAfter_1 x0 x1) (O1 : Blk w g1_ 3 #[(.int .i64 x1)]) :
    Cll Tryz.prog 211 #[(.int .i64 x0), (.pointer (some (⟨g1_, 0, none⟩ : Addr)))] w (fun v_ w_ => v_ = (.bool r) ∧ Ext w w_) := by
  have H := wp.impl_FirstAfter_1.math x0 x1 hp
  have hB := Ext.refl w
  refine beginF mixed (fn := Tryz.f211) (by kernel_rfl) (by kernel_rfl) (an := impl_FirstAfter_1.ann) (V := impl_FirstAfter_1.vc x0 (⟨g1_, 0, none⟩ : Addr)) (by kernel_rfl) ?_
  unfold impl_FirstAfter_1.vc
  unfold wp.impl_FirstAfter_1 at H
  refine ⟨_, (O1.at 0 rfl rfl), ?_⟩
  obtain rfl := hr.trans H.symm
  exact ⟨rfl, hB⟩
def slices_DeleteFunc_int_int.vc (A0 : Option Addr) (n0 : Nat) (c0 : Nat) (f1 : Nat) (cap1 : Array Value) (w : World) (K : Value → World → Prop) : Prop :=
  Cll Tryz.prog 148 #[(.slice A0 n0 c0), (.func (.func f1) #[] cap1)] w fun v21 w22 => (∃ (n23 : Int), v21 = (.int .i64 n23) ∧ bcase (n23 == (-1)) (K (.slice A0 n0 c0) w22) (LoopT (σ := Int × Int × Unit) (fun z24 w25 next26 => bcase (decide (z24.2.1 < ((n0 : Nat) : Int))) (((0 : Int) ≤ z24.2.1 ∧ z24.2.1 < ((n0 : Nat) : Int) ∧ ∃ a27 : Addr, A0 = some a27 ∧ ∃ (n28 : Int), w25.cell? ((a27.add ((z24.2.1.toNat) * 1)).add 0) = some (.int .i64 n28) ∧ Cll Tryz.prog f1 (#[(.int .i64 n28)] ++ cap1) w25 fun v29 w30 => (∃ (b31 : Bool), v29 = (.bool b31) ∧ bcase (!b31) (((0 : Int) ≤ z24.1 ∧ z24.1 < ((n0 : Nat) : Int) ∧ ∃ a32 : Addr, A0 = some a32 ∧ stCells (a32.add ((z24.1.toNat) * 1)) [(.int .i64 n28)] 0 w30 fun w33 => next26 ((IntKind.wrap .i64 (z24.1 + 1)), (IntKind.wrap .i64 (z24.2.1 + 1)), ()) w33)) (next26 (z24.1, (IntKind.wrap .i64 (z24.2.1 + 1)), ()) w30)))) (((0 : Int) ≤ z24.1 ∧ z24.1 ≤ ((n0 : Nat) : Int) ∧ Run Tryz.prog (Builtin.clear_ #[27] 0 #[(.slice (if c0 = (z24.1.toNat) then A0 else A0.map (·.add ((z24.1.toNat) * szOf Tryz.prog 3))) (n0 - (z24.1.toNat)) (c0 - (z24.1.toNat)))]) w25 fun v34 w35 => v34 = .tuple #[] ∧ ((0 : Int) ≤ z24.1 ∧ z24.1 ≤ ((c0 : Nat) : Int) ∧ K (.slice A0 (z24.1.toNat) c0) w35)))) (n23, (IntKind.wrap .i64 (n23 + 1)), ()) w22))

def slices_DeleteFunc_int_int.ann : Ann := (.seq .l (.seq .l (.seq (.seq .l (.two (.seq .l .l) .l)) (.seq (.seq .l (.one (.loop [(5, .int .i64), (6, .int .i64)] (.seq (.seq .l (.two .l .l)) (.seq (.one (.seq .l (.seq .l (.two (.seq .l .l) .l)))) .l))))) (.seq .l (.seq .l .l))))))

theorem slices_DeleteFunc_int_int.start {A0 : Option Addr} {n0 : Nat} {c0 : Nat} {f1 : Nat} {cap1 : Array Value} {w : World} {K : Value → World → Prop} (h : slices_DeleteFunc_int_int.vc A0 n0 c0 f1 cap1 w K) : Cll Tryz.prog 209 #[(.slice A0 n0 c0), (.func (.func f1) #[] cap1)] w K :=
  vcF_sound mixed (fn := Tryz.f209) (by kernel_rfl) (by kernel_rfl) (an := slices_DeleteFunc_int_int.ann) (args := [(.slice A0 n0 c0), (.func (.func f1) #[] cap1)]) (Eq.mpr (by kernel_rfl) h)

theorem slices_DeleteFunc_int_int.con {xs0 : List Int} {A0 : Option Addr} {c0 : Nat} {f1 : Nat} {cap1 : Array Value} {g1 : Int → Bool} {D1 : Int → Prop} {r : List Int} {w : World} (hp : M.slices_DeleteFunc_int_int_pre xs0 g1 D1) (hr : r = M.slices_DeleteFunc_int_int xs0 g1) (O1 : Own el3 w 0 A0 c0 xs0) (F1 : ∀ (z0_ : Int), D1 z0_ → ∀ w_ : World, Chg (InB A0) w w_ → Cll Tryz.prog f1 (#[(.int .i64 z0_)] ++ cap1) w_ (fun v_ w1_ => v_ = (.bool (g1 z0_)) ∧ Ext w_ w1_)) :
    Cll Tryz.prog 209 #[(.slice A0 xs0.length c0), (.func (.func f1) #[] cap1)] w (fun v_ w_ => ∃ (A0_ : Option Addr) (c0_ : Nat), v_ = (.slice A0_ r.length c0_) ∧ Own el3 w_ 0 A0_ c0_ r ∧ Mov w A0 A0_ ∧ Chg (InB A0) w w_) := by
  have H := wp.slices_DeleteFunc_int_int.math xs0 g1 D1 hp
  have hB := Chg.refl (InB A0) w
  refine slices_DeleteFunc_int_int.start ?_
  unfold slices_DeleteFunc_int_int.vc
  unfold wp.slices_DeleteFunc_int_int at H
  obtain ⟨hp23, H⟩ := H
  obtain ⟨r21, hr22, H⟩ := callO H
  refine (slices_IndexFunc_int_int.con hp23 hr22 O1.row O1.le (fun z0_  h_ w_ e_ => F1 z0_  h_ w_ (hB.then e_))).mono ?_
  rintro _ w24 ⟨rfl, e25⟩
  have O1 := O1.ext e25
  have hB := hB.then e25
  refine ⟨r21, rfl, ?_⟩
  refine brc H (fun hc96 H => ?_) (fun hc96 H => ?_)
  ·obtain rfl := hr.trans H.symm
   exact ⟨A0, c0, rfl, (O1.mono (Nat.zero_le _)), (Mov.same _ _), hB⟩
  obtain ⟨J56, ⟨m94, hJ93⟩, hS57⟩ := H
  refine ⟨fun m_ z_ w_ => ∃ (i51 : Int) (i52 : Int) (xs53 : List Int), z_ = (i51, i52, ()) ∧ J56 m_ (i51, i52, xs53, ()) ∧ Chg (InB A0) w w_ ∧ Own el3 w_ 0 A0 c0 xs53 ∧ xs0.length = xs53.length, ⟨m94, r21, (IntKind.wrap .i64 (r21 + 1)), xs0, rfl, hJ93, hB, O1, (by first | rfl | assumption | omega | (simp; done) | (simp; omega) | (simp; assumption))⟩, ?_⟩
  rintro m55 _ w59 ⟨i51, i52, xs53, rfl, hJ95, hB, O1, hn54⟩
  have H := hS57 m55 _ hJ95
  clear hS57 hJ95
  try dsimp only at H ⊢
  refine brc H (fun hc91 H => ?_) (fun hc91 H => ?_)
  ·obtain ⟨⟨h0_63, h1_64⟩, H⟩ := H
   obtain ⟨a61, ha62, hat60⟩ := Row.at O1.row h0_63 h1_64
   refine ⟨h0_63, (by first | exact h1_64 | omega | (simp at h1_64 ⊢; omega)), a61, ha62, _, (hat60 0 _ rfl), ?_⟩
   obtain ⟨hd67, H⟩ := H
   obtain ⟨r65, hr66, H⟩ := callO H
   refine (F1 (rd xs53 i52) hd67 _ hB).mono ?_
   rintro _ w68 ⟨rfl, e69⟩
   rw [← hr66]
   have O1 := O1.ext e69
   have hB := hB.then e69
   refine ⟨r65, rfl, ?_⟩
   refine brc H (fun hc84 H => ?_) (fun hc84 H => ?_)
   ·obtain ⟨⟨h0_73, h1_74⟩, H⟩ := H
    obtain ⟨a71, ha72, hat70⟩ := Row.at O1.row h0_73 h1_74
    refine ⟨h0_73, (by first | exact h1_74 | omega | (simp at h1_74 ⊢; omega)), a71, ha72, ?_⟩
    refine Own.storeAt O1 ha72 h0_73 h1_74 0 [(.int .i64 (rd xs53 i52))] (rd xs53 i52) rfl (Nat.le_of_ble_eq_true rfl) rfl (fun w75 P1 e76 hb77 => ?_)
    have hB := hB.chgb e76 (Or.inr ⟨_, ha72, rfl⟩)
    have O1 := P1
    obtain ⟨m78, hm79, hJ80⟩ := H
    exact ⟨m78, hm79, (IntKind.wrap .i64 (i51 + 1)), (IntKind.wrap .i64 (i52 + 1)), (List.set xs53 (i51.toNat) (rd xs53 i52)), rfl, hJ80, hB, O1, (by first | rfl | assumption | omega | (simp; done) | (simp; omega) | (simp; assumption))⟩
   obtain ⟨m81, hm82, hJ83⟩ := H
   exact ⟨m81, hm82, i51, (IntKind.wrap .i64 (i52 + 1)), xs53, rfl, hJ83, hB, O1, (by first | rfl | assumption | omega | (simp; done) | (simp; omega) | (simp; assumption))⟩
  obtain ⟨⟨hl85, hl86⟩, H⟩ := H
  refine and_assoc.1 ⟨⟨hl85, (by first | exact hl86 | omega)⟩, ?_⟩
  rw [show (xs0.length - (i51.toNat)) = ((List.drop (i51.toNat) xs53)).length from by first | rfl | (simp; done) | (simp; omega)]
  have O2 := (O1.drop (l := (i51.toNat)) (by first | omega | (simp; done) | (simp; omega)))
  refine clearCut slt27 O1 (l := (i51.toNat)) (by first | omega | (simp; omega)) (by first | rfl | (simp; done) | (simp; omega)) (fun w87 P1 e88 => ?_)
  have hB := hB.app e88 (fun g h_ => (Or.inr h_))
  have O1 := P1
  obtain ⟨⟨hh89, hh90⟩, H⟩ := H
  refine and_assoc.1 ⟨⟨hh89, Int.le_trans hh90 (Int.ofNat_le.2 O1.le)⟩, ?_⟩
  rw [show (i51.toNat) = ((List.take (i51.toNat) (List.take (i51.toNat) xs53 ++ List.replicate (xs53.length - (i51.toNat)) default))).length from by first | rfl | (simp; done) | (simp; omega)]
  have O3 := (O1.take (i51.toNat))
  obtain rfl := hr.trans H.symm
  exact ⟨A0, c0, rfl, (O3.mono (Nat.zero_le _)), (Mov.same _ _), hB⟩
def impl_firstOf_1.vc (x0 : Int) (p1 : Addr) (p2 : Addr) (w : World) (K : Value → World → Prop) : Prop :=
  ∃ (A21 : Option Addr) (n22 : Nat) (c23 : Nat), w.cell? (p1.add 0) = some (.slice A21 n22 c23) ∧ ∃ (n24 : Int), w.cell? (p2.add 0) = some (.int .i64 n24) ∧ Cll Tryz.prog 245 #[(.slice A21 n22 c23), (.int .i64 n24), (.int .i64 x0)] w fun v25 w26 => (∃ (b27 : Bool), v25 = (.bool b27) ∧ K (.bool (!b27)) w26)

def impl_firstOf_1.ann : Ann := (.seq .l (.seq .l .l))

theorem impl_firstOf_1.con {x0 : Int} {xs1 : List D.Ins} {x2 : Int} {g1_ : Nat} {A1_0 : Option Addr} {c1_0 : Nat} {g3_ : Nat} {r : Bool} {w : World} (hp : M.impl_firstOf_1_pre x0 xs1 x2) (hr : r = M.impl_firstOf_1 x0 xs1 x2) (O1 : Blk w g1_ 24 #[(.slice A1_0 xs1.length c1_0)]) (R1_0 : Row el91 w A1_0 xs1) (hc1_0 : xs1.length ≤ c1_0) (O3 : Blk w g3_ 3 #[(.int .i64 x2)]) :
    Cll Tryz.prog 244 #[(.int .i64 x0), (.pointer (some (⟨g1_, 0, none⟩ : Addr))), (.pointer (some (⟨g3_, 0, none⟩ : Addr)))] w (fun v_ w_ => v_ = (.bool r) ∧ Ext w w_) := by
  have H := wp.impl_firstOf_1.math x0 xs1 x2 hp
  have hB := Ext.refl w
  refine beginF mixed (fn := Tryz.f244) (by kernel_rfl) (by kernel_rfl) (an := impl_firstOf_1.ann) (V := impl_firstOf_1.vc x0 (⟨g1_, 0, none⟩ : Addr) (⟨g3_, 0, none⟩ : Addr)) (by kernel_rfl) ?_
  unfold impl_firstOf_1.vc
  unfold wp.impl_firstOf_1 at H
  refine ⟨_, _, _, (O1.at 0 rfl rfl), _, (O3.at 0 rfl rfl), ?_⟩
  obtain ⟨hp23, H⟩ := H
  obtain ⟨r21, hr22, H⟩ := callO H
  refine (impl_isAfter.con hp23 hr22 (R1_0.ext hB) hc1_0).mono ?_
  rintro _ w24 ⟨rfl, e25⟩
  have O1 := O1.ext e25
  have O3 := O3.ext e25
  have hB := ethen hB e25
  refine ⟨r21, rfl, ?_⟩
  obtain rfl := hr.trans H.symm
  exact ⟨rfl, hB⟩
def impl_firstOf.vc (A0 : Option Addr) (n0 : Nat) (c0 : Nat) (A1 : Option Addr) (n1 : Nat) (c1 : Nat) (w : World) (K : Value → World → Prop) : Prop :=
  newK w (.cells #[(.slice A0 n0 c0)] 24) fun g21 w22 => LoopT (σ := Int × Unit) (fun z23 w24 next25 => bcase (decide (z23.1 < ((n1 : Nat) : Int))) (((0 : Int) ≤ z23.1 ∧ z23.1 < ((n1 : Nat) : Int) ∧ ∃ a26 : Addr, A1 = some a26 ∧ ∃ (n27 : Int), w24.cell? ((a26.add ((z23.1.toNat) * 1)).add 0) = some (.int .i64 n27) ∧ newK w24 (.cells #[(.int .i64 0)] 3) fun g28 w29 => stCells (⟨g28, 0, none⟩ : Addr) [(.int .i64 n27)] 0 w29 fun w30 => Cll Tryz.prog 104 #[(.slice A1 n1 c1), (.func (.func 244) #[] #[(.pointer (some (⟨g21, 0, none⟩ : Addr))), (.pointer (some (⟨g28, 0, none⟩ : Addr)))])] w30 fun v31 w32 => (∃ (b33 : Bool), v31 = (.bool b33) ∧ bcase (!b33) (∃ (n34 : Int), w32.cell? ((⟨g28, 0, none⟩ : Addr).add 0) = some (.int .i64 n34) ∧ K (.int .i64 n34) w32) (next25 ((IntKind.wrap .i64 (z23.1 + 1)), ()) w32)))) (K (.int .i64 (-1)) w24)) (0, ()) w22

def impl_firstOf.ann : Ann := (.seq .l (.seq (.seq .l (.one (.loop [(9, .int .i64)] (.seq .l (.seq (.two .l .l) (.seq (.one (.seq .l (.seq .l (.two (.seq .l .l) .l)))) .l)))))) (.seq .l .l)))

theorem impl_firstOf.con {xs0 : List D.Ins} {A0 : Option Addr} {c0 : Nat} {xs1 : List Int} {A1 : Option Addr} {c1 : Nat} {r : Int} {w : World} (hp : M.impl_firstOf_pre xs0 xs1) (hr : r = M.impl_firstOf xs0 xs1) (R0 : Row el91 w A0 xs0) (hc0 : xs0.length ≤ c0) (R1 : Row el3 w A1 xs1) (hc1 : xs1.length ≤ c1) :
    Cll Tryz.prog 208 #[(.slice A0 xs0.length c0), (.slice A1 xs1.length c1)] w (fun v_ w_ => v_ = (.int .i64 r) ∧ Ext w w_) := by
  have H := wp.impl_firstOf.math xs0 xs1 hp
  have hB := Ext.refl w
  refine beginF mixed (fn := Tryz.f208) (by kernel_rfl) (by kernel_rfl) (an := impl_firstOf.ann) (V := impl_firstOf.vc A0 xs0.length c0 A1 xs1.length c1) (by kernel_rfl) ?_
  unfold impl_firstOf.vc
  unfold wp.impl_firstOf at H
  refine newBlk (fun g3_ w21 L3 P3 e22 => ?_)
  have O3 := P3
  have L3 := Nat.le_trans hB.size L3
  have hB := ethen hB e22
  obtain ⟨J25, ⟨m50, hJ49⟩, hS26⟩ := H
  refine ⟨fun m_ z_ w_ => ∃ (i23 : Int), z_ = (i23, ()) ∧ J25 m_ (i23, ()) ∧ Ext w w_ ∧ Blk w_ g3_ 24 #[(.slice A0 xs0.length c0)], ⟨m50, 0, rfl, hJ49, hB, O3⟩, ?_⟩
  rintro m24 _ w28 ⟨i23, rfl, hJ51, hB, O3⟩
  have H := hS26 m24 _ hJ51
  clear hS26 hJ51
  try dsimp only at H ⊢
  refine brc H (fun hc47 H => ?_) (fun hc47 H => ?_)
  ·obtain ⟨⟨h0_32, h1_33⟩, H⟩ := H
   obtain ⟨a30, ha31, hat29⟩ := Row.at (R1.ext hB) h0_32 h1_33
   refine ⟨h0_32, h1_33, a30, ha31, _, (hat29 0 _ rfl), ?_⟩
   refine newBlk (fun g4_ w34 L4 P4 e35 => ?_)
   have N3_4 := O3.ne L4
   have O3 := O3.ext e35
   have O4 := P4
   have L4 := Nat.le_trans hB.size L4
   have hB := ethen hB e35
   refine stBlk O4 (o := 0) (cs' := #[(.int .i64 (rd xs1 i23))]) rfl rfl (Nat.le_of_ble_eq_true rfl) rfl (fun w36 P4 e37 => ?_)
   have O3_ := O3.chg e37 N3_4
   have O3 := O3_
   have hB := echg hB e37 L4
   have O4 := P4
   obtain ⟨hp40, H⟩ := H
   obtain ⟨r38, hr39, H⟩ := callO H
   refine (slices_ContainsFunc_int_int.con hp40 hr39 (R1.ext hB) hc1 (fun z0_ h_ w_ e_ => cllApp (l1 := [_]) (l2 := [_, _]) (impl_firstOf_1.con h_ rfl (O3.ext e_) (R0.ext (ethen hB e_)) hc0 (O4.ext e_)))).mono ?_
   rintro _ w41 ⟨rfl, e42⟩
   have O3 := O3.ext e42
   have O4 := O4.ext e42
   have hB := ethen hB e42
   refine ⟨r38, rfl, ?_⟩
   refine brc H (fun hc46 H => ?_) (fun hc46 H => ?_)
   ·refine ⟨_, (O4.at 0 rfl rfl), ?_⟩
    obtain rfl := hr.trans H.symm
    exact ⟨rfl, hB⟩
   obtain ⟨m43, hm44, hJ45⟩ := H
   exact ⟨m43, hm44, (IntKind.wrap .i64 (i23 + 1)), rfl, hJ45, hB, O3⟩
  obtain rfl := hr.trans H.symm
  exact ⟨rfl, hB⟩
def impl_FirstAfter.vc (A0 : Option Addr) (n0 : Nat) (c0 : Nat) (x1 : Int) (w : World) (K : Value → World → Prop) : Prop :=
  newK w (.cells #[(.int .i64 x1)] 3) fun g21 w22 => ∃ (n23 : Int), w22.cell? ((⟨g21, 0, none⟩ : Addr).add 0) = some (.int .i64 n23) ∧ Cll Tryz.prog 210 #[(.slice A0 n0 c0), (.int .i64 n23)] w22 fun v24 w25 => (∃ (A26 : Option Addr) (n27 : Nat) (c28 : Nat), v24 = (.slice A26 n27 c28) ∧ Cll Tryz.prog 209 #[(.slice A26 n27 c28), (.func (.func 211) #[] #[(.pointer (some (⟨g21, 0, none⟩ : Addr)))])] w25 fun v29 w30 => (∃ (A31 : Option Addr) (n32 : Nat) (c33 : Nat), v29 = (.slice A31 n32 c33) ∧ Cll Tryz.prog 208 #[(.slice A0 n0 c0), (.slice A31 n32 c33)] w30 fun v34 w35 => (∃ (n36 : Int), v34 = (.int .i64 n36) ∧ K (.int .i64 n36) w35)))

def impl_FirstAfter.ann : Ann := (.seq .l (.seq .l .l))

theorem impl_FirstAfter.con {xs0 : List D.Ins} {A0 : Option Addr} {c0 : Nat} {x1 : Int} {r : Int} {w : World} (hp : M.impl_FirstAfter_pre xs0 x1) (hr : r = M.impl_FirstAfter xs0 x1) (R0 : Row el91 w A0 xs0) (hc0 : xs0.length ≤ c0) :
    Cll Tryz.prog 187 #[(.slice A0 xs0.length c0), (.int .i64 x1)] w (fun v_ w_ => v_ = (.int .i64 r) ∧ Ext w w_) := by
  have H := wp.impl_FirstAfter.math xs0 x1 hp
  have hB := Ext.refl w
  refine beginF mixed (fn := Tryz.f187) (by kernel_rfl) (by kernel_rfl) (an := impl_FirstAfter.ann) (V := impl_FirstAfter.vc A0 xs0.length c0 x1) (by kernel_rfl) ?_
  unfold impl_FirstAfter.vc
  unfold wp.impl_FirstAfter at H
  refine newBlk (fun g2_ w21 L2 P2 e22 => ?_)
  have O2 := P2
  have L2 := Nat.le_trans hB.size L2
  have hB := ethen hB e22
  refine ⟨_, (O2.at 0 rfl rfl), ?_⟩
  obtain ⟨hp25, H⟩ := H
  obtain ⟨r23, hr24, H⟩ := callO H
  refine (impl_AftersOf.con hp25 hr24 (R0.ext hB) hc0).mono ?_
  rintro _ w26 ⟨A28, c29, rfl, P3, e27⟩
  have N3_2 := P3.apart_old O2.lt
  have O2 := O2.ext e27
  have O3 := P3.mono hB.size
  have hB := ethen hB e27
  refine ⟨A28, r23.length, c29, rfl, ?_⟩
  obtain ⟨hp32, H⟩ := H
  obtain ⟨r30, hr31, H⟩ := callO H
  refine (slices_DeleteFunc_int_int.con hp32 hr31 (O3.mono (Nat.zero_le _)) (fun z0_ h_ w_ e_ => cllApp (l1 := [_]) (l2 := [_]) (impl_FirstAfter_1.con h_ rfl (O2.chgS e_ (N3_2).inb)))).mono ?_
  rintro _ w33 ⟨A35, c36, rfl, P4, Mv4, e34⟩
  have N4_2 := Apart.mov N3_2 Mv4 O2.lt
  have Lw4 := Mv4.low O3.low hB.size
  have O2 := O2.chgS e34 (N3_2).inb
  have hB := Chg.ext hB e34 O3.low
  have O4 := P4.lift Lw4
  refine ⟨A35, r30.length, c36, rfl, ?_⟩
  obtain ⟨hp39, H⟩ := H
  obtain ⟨r37, hr38, H⟩ := callO H
  refine (impl_firstOf.con hp39 hr38 (R0.ext hB) hc0 O4.row O4.le).mono ?_
  rintro _ w40 ⟨rfl, e41⟩
  have O2 := O2.ext e41
  have O4 := O4.ext e41
  have hB := ethen hB e41
  refine ⟨r37, rfl, ?_⟩
  obtain rfl := hr.trans H.symm
  exact ⟨rfl, hB⟩
def impl_JoinOf.vc (A0 : Option Addr) (n0 : Nat) (c0 : Nat) (x1 : Int) (w : World) (K : Value → World → Prop) : Prop :=
  Cll Tryz.prog 150 #[(.slice A0 n0 c0), (.int .i64 x1)] w fun v21 w22 => (∃ (b23 : Bool), v21 = (.bool b23) ∧ bcase (!b23) (K (.int .i64 (-1)) w22) (Cll Tryz.prog 149 #[(.slice A0 n0 c0), (.int .i64 x1)] w22 fun v24 w25 => (∃ (A26 : Option Addr) (n27 : Nat) (c28 : Nat), v24 = (.slice A26 n27 c28) ∧ LoopT (σ := Int × Unit) (fun z29 w30 next31 => bcase (decide (z29.1 < ((n27 : Nat) : Int))) (((0 : Int) ≤ z29.1 ∧ z29.1 < ((n27 : Nat) : Int) ∧ ∃ a32 : Addr, A26 = some a32 ∧ ∃ (n33 : Int), w30.cell? ((a32.add ((z29.1.toNat) * 1)).add 0) = some (.int .i64 n33) ∧ Cll Tryz.prog 186 #[(.slice A0 n0 c0), (.int .i64 n33)] w30 fun v34 w35 => (∃ (b36 : Bool), v34 = (.bool b36) ∧ bcase (!b36) (K (.int .i64 ((n0 : Nat) : Int)) w35) (next31 ((IntKind.wrap .i64 (z29.1 + 1)), ()) w35)))) (Cll Tryz.prog 187 #[(.slice A0 n0 c0), (.int .i64 x1)] w30 fun v37 w38 => (∃ (n39 : Int), v37 = (.int .i64 n39) ∧ K (.int .i64 n39) w38))) (0, ()) w25)))

def impl_JoinOf.ann : Ann := (.seq .l (.seq (.seq .l (.two (.seq .l .l) .l)) (.seq (.seq .l (.one (.loop [(15, .int .i64)] (.seq .l (.seq (.two .l .l) (.seq (.one (.seq .l (.seq .l (.two (.seq .l .l) .l)))) .l)))))) (.seq .l .l))))

theorem impl_JoinOf.con {xs0 : List D.Ins} {A0 : Option Addr} {c0 : Nat} {x1 : Int} {r : Int} {w : World} (hp : M.impl_JoinOf_pre xs0 x1) (hr : r = M.impl_JoinOf xs0 x1) (R0 : Row el91 w A0 xs0) (hc0 : xs0.length ≤ c0) :
    Cll Tryz.prog 153 #[(.slice A0 xs0.length c0), (.int .i64 x1)] w (fun v_ w_ => v_ = (.int .i64 r) ∧ Ext w w_) := by
  have H := wp.impl_JoinOf.math xs0 x1 hp
  have hB := Ext.refl w
  refine beginF mixed (fn := Tryz.f153) (by kernel_rfl) (by kernel_rfl) (an := impl_JoinOf.ann) (V := impl_JoinOf.vc A0 xs0.length c0 x1) (by kernel_rfl) ?_
  unfold impl_JoinOf.vc
  unfold wp.impl_JoinOf at H
  obtain ⟨hp23, H⟩ := H
  obtain ⟨r21, hr22, H⟩ := callO H
  refine (impl_isBranch.con hp23 hr22 (R0.ext hB) hc0).mono ?_
  rintro _ w24 ⟨rfl, e25⟩
  have hB := ethen hB e25
  refine ⟨r21, rfl, ?_⟩
  refine brc H (fun hc63 H => ?_) (fun hc63 H => ?_)
  ·obtain rfl := hr.trans H.symm
   exact ⟨rfl, hB⟩
  obtain ⟨hp28, H⟩ := H
  obtain ⟨r26, hr27, H⟩ := callO H
  refine (impl_next.con hp28 hr27 (R0.ext hB) hc0).mono ?_
  rintro _ w29 ⟨A31, c32, rfl, P2, e30⟩
  have O2 := P2.mono hB.size
  have hB := ethen hB e30
  refine ⟨A31, r26.length, c32, rfl, ?_⟩
  obtain ⟨J35, ⟨m61, hJ60⟩, hS36⟩ := H
  refine ⟨fun m_ z_ w_ => ∃ (i33 : Int), z_ = (i33, ()) ∧ J35 m_ (i33, ()) ∧ Ext w w_ ∧ Own el3 w_ w.heap.size A31 c32 r26, ⟨m61, 0, rfl, hJ60, hB, O2⟩, ?_⟩
  rintro m34 _ w38 ⟨i33, rfl, hJ62, hB, O2⟩
  have H := hS36 m34 _ hJ62
  clear hS36 hJ62
  try dsimp only at H ⊢
  refine brc H (fun hc58 H => ?_) (fun hc58 H => ?_)
  ·obtain ⟨⟨h0_42, h1_43⟩, H⟩ := H
   obtain ⟨a40, ha41, hat39⟩ := Row.at O2.row h0_42 h1_43
   refine ⟨h0_42, h1_43, a40, ha41, _, (hat39 0 _ rfl), ?_⟩
   obtain ⟨hp46, H⟩ := H
   obtain ⟨r44, hr45, H⟩ := callO H
   refine (impl_reachesExit.con hp46 hr45 (R0.ext hB) hc0).mono ?_
   rintro _ w47 ⟨rfl, e48⟩
   have O2 := O2.ext e48
   have hB := ethen hB e48
   refine ⟨r44, rfl, ?_⟩
   refine brc H (fun hc52 H => ?_) (fun hc52 H => ?_)
   ·obtain rfl := hr.trans H.symm
    exact ⟨rfl, hB⟩
   obtain ⟨m49, hm50, hJ51⟩ := H
   exact ⟨m49, hm50, (IntKind.wrap .i64 (i33 + 1)), rfl, hJ51, hB, O2⟩
  obtain ⟨hp55, H⟩ := H
  obtain ⟨r53, hr54, H⟩ := callO H
  refine (impl_FirstAfter.con hp55 hr54 (R0.ext hB) hc0).mono ?_
  rintro _ w56 ⟨rfl, e57⟩
  have hB := ethen hB e57
  refine ⟨r53, rfl, ?_⟩
  obtain rfl := hr.trans H.symm
  exact ⟨rfl, hB⟩
def impl_WarpOk.vc (A0 : Option Addr) (n0 : Nat) (c0 : Nat) (x1_0 : Int) (A1_1 : Option Addr) (n1_1 : Nat) (c1_1 : Nat) (A1_2 : Option Addr) (n1_2 : Nat) (c1_2 : Nat) (w : World) (K : Value → World → Prop) : Prop :=
  newK w (.cells #[(.int .i64 x1_0), (.slice A1_1 n1_1 c1_1), (.slice A1_2 n1_2 c1_2)] 29) fun g21 w22 => Cll Tryz.prog 73 #[(.slice A0 n0 c0)] w22 fun v23 w24 => (∃ (b25 : Bool), v23 = (.bool b25) ∧ bcase b25 (∃ (n26 : Int), w24.cell? ((⟨g21, 0, none⟩ : Addr).add 0) = some (.int .i64 n26) ∧ ∃ (A27 : Option Addr) (n28 : Nat) (c29 : Nat), w24.cell? ((⟨g21, 0, none⟩ : Addr).add 1) = some (.slice A27 n28 c29) ∧ ∃ (A30 : Option Addr) (n31 : Nat) (c32 : Nat), w24.cell? ((⟨g21, 0, none⟩ : Addr).add 2) = some (.slice A30 n31 c32) ∧ Cll Tryz.prog 93 #[(.slice A0 n0 c0), (.agg #[(.int .i64 n26), (.slice A27 n28 c29), (.slice A30 n31 c32)])] w24 fun v33 w34 => (∃ (b35 : Bool), v33 = (.bool b35) ∧ K (.bool b35) w34)) (K (.bool false) w24))

def impl_WarpOk.ann : Ann := (.seq .l (.seq .l .l))

theorem impl_WarpOk.con {xs0 : List D.Ins} {A0 : Option Addr} {c0 : Nat} {s1 : D.Warp} {A1_1 : Option Addr} {c1_1 : Nat} {A1_2 : Option Addr} {c1_2 : Nat} {r : Bool} {w : World} (hp : M.impl_WarpOk_pre xs0 s1) (hr : r = M.impl_WarpOk xs0 s1) (R0 : Row el91 w A0 xs0) (hc0 : xs0.length ≤ c0) (R1_1 : Row el105 w A1_1 s1.Frames) (hc1_1 : s1.Frames.length ≤ c1_1) (R1_2 : Row el3 w A1_2 s1.Regs) (hc1_2 : s1.Regs.length ≤ c1_2) :
    Cll Tryz.prog 115 #[(.slice A0 xs0.length c0), (.agg #[(.int .i64 s1.Number), (.slice A1_1 s1.Frames.length c1_1), (.slice A1_2 s1.Regs.length c1_2)])] w (fun v_ w_ => v_ = (.bool r) ∧ Ext w w_) := by
  have H := wp.impl_WarpOk.math xs0 s1 hp
  have hB := Ext.refl w
  refine beginF mixed (fn := Tryz.f115) (by kernel_rfl) (by kernel_rfl) (an := impl_WarpOk.ann) (V := impl_WarpOk.vc A0 xs0.length c0 s1.Number A1_1 s1.Frames.length c1_1 A1_2 s1.Regs.length c1_2) (by kernel_rfl) ?_
  unfold impl_WarpOk.vc
  unfold wp.impl_WarpOk at H
  refine newBlk (fun g4_ w21 L4 P4 e22 => ?_)
  have O4 := P4
  have L4 := Nat.le_trans hB.size L4
  have hB := ethen hB e22
  obtain ⟨hp25, H⟩ := H
  obtain ⟨r23, hr24, H⟩ := callO H
  refine (impl_ProgramOk.con hp25 hr24 (R0.ext hB) hc0).mono ?_
  rintro _ w26 ⟨rfl, e27⟩
  have O4 := O4.ext e27
  have hB := ethen hB e27
  refine ⟨r23, rfl, ?_⟩
  refine brc H (fun hc33 H => ?_) (fun hc33 H => ?_)
  ·refine ⟨_, (O4.at 0 rfl rfl), _, _, _, (O4.at 1 rfl rfl), _, _, _, (O4.at 2 rfl rfl), ?_⟩
   obtain ⟨hp30, H⟩ := H
   obtain ⟨r28, hr29, H⟩ := callO H
   refine (impl_isWarpOf.con hp30 hr29 (R0.ext hB) hc0 (R1_1.ext hB) hc1_1 (R1_2.ext hB) hc1_2).mono ?_
   rintro _ w31 ⟨rfl, e32⟩
   have O4 := O4.ext e32
   have hB := ethen hB e32
   refine ⟨r28, rfl, ?_⟩
   obtain rfl := hr.trans H.symm
   exact ⟨rfl, hB⟩
  obtain rfl := hr.trans H.symm
  exact ⟨rfl, hB⟩
def impl_Warp_separate.vc (p0 : Addr) (A1 : Option Addr) (n1 : Nat) (c1 : Nat) (w : World) (K : Value → World → Prop) : Prop :=
  ∃ (A21 : Option Addr) (n22 : Nat) (c23 : Nat), w.cell? ((p0.add 1).add 0) = some (.slice A21 n22 c23) ∧ bcase (decide ((IntKind.wrap .i64 (((n22 : Nat) : Int) + 2)) > 24)) (K (.bool false) w) (∃ (A24 : Option Addr) (n25 : Nat) (c26 : Nat), w.cell? ((p0.add 1).add 0) = some (.slice A24 n25 c26) ∧ ∃ (A27 : Option Addr) (n28 : Nat) (c29 : Nat), w.cell? ((p0.add 1).add 0) = some (.slice A27 n28 c29) ∧ ((0 : Int) ≤ (IntKind.wrap .i64 (((n28 : Nat) : Int) - 1)) ∧ (IntKind.wrap .i64 (((n28 : Nat) : Int) - 1)) < ((n25 : Nat) : Int) ∧ ∃ a30 : Addr, A24 = some a30 ∧ ∃ (n31 : Int), w.drew.cell? (((a30.add (((IntKind.wrap .i64 (((n28 : Nat) : Int) - 1)).toNat) * 3)).add 0).add 0) = some (.int .i64 n31) ∧ ∃ (n32 : Int), w.drew.cell? (((a30.add (((IntKind.wrap .i64 (((n28 : Nat) : Int) - 1)).toNat) * 3)).add 2).add 0) = some (.int .i64 n32) ∧ (∃ M33 : Nat → Prop, ∃ (n34 : Int), (¬ M33 (p0).block ∧ w.drew.drew.cell? (p0.add 0) = some (.int .i64 n34)) ∧ ∃ (A35 : Option Addr) (n36 : Nat) (c37 : Nat), (¬ M33 (p0).block ∧ w.drew.drew.cell? (p0.add 1) = some (.slice A35 n36 c37)) ∧ ∃ (A38 : Option Addr) (n39 : Nat) (c40 : Nat), (¬ M33 (p0).block ∧ w.drew.drew.cell? (p0.add 2) = some (.slice A38 n39 c40)) ∧ ((0 : Int) ≤ n31 ∧ n31 < ((n1 : Nat) : Int) ∧ ∃ a41 : Addr, A1 = some a41 ∧ ∃ (n42 : Int), (¬ M33 (((a41.add ((n31.toNat) * 4)).add 1)).block ∧ w.drew.drew.cell? (((a41.add ((n31.toNat) * 4)).add 1).add 0) = some (.int .i64 n42)) ∧ Cll Tryz.prog 123 #[(.agg #[(.int .i64 n34), (.slice A35 n36 c37), (.slice A38 n39 c40)]), (.int .i64 n42)] w.drew.drew.drew fun v43 w44 => (∃ (n45 : Int), v43 = (.int .i64 n45) ∧ SameBut M33 w.drew.drew w44 ∧ Cll Tryz.prog 153 #[(.slice A1 n1 c1), (.int .i64 n31)] w44 fun v46 w47 => (∃ (n48 : Int), v46 = (.int .i64 n48) ∧ stCells ((a30.add (((IntKind.wrap .i64 (((n28 : Nat) : Int) - 1)).toNat) * 3)).add 0) [(.int .i64 n48)] 0 w47 fun w49 => ((0 : Int) ≤ n31 ∧ n31 < ((n1 : Nat) : Int) ∧ ∃ a50 : Addr, A1 = some a50 ∧ ((∃ (A51 : Option Addr) (n52 : Nat) (c53 : Nat), w49.drew.cell? ((p0.add 1).add 0) = some (.slice A51 n52 c53) ∧ ((∃ (n54 : Int), w49.drew.cell? (((a50.add ((n31.toNat) * 4)).add 2).add 0) = some (.int .i64 n54) ∧ ((Run Tryz.prog (Instr.buildSlice 26 2 #[(0, (.agg #[(.int .i64 (IntKind.wrap .i64 (n31 + 1))), (.int .i64 n48), (.int .i64 (bitNot .i64 n32 n45))])), (1, (.agg #[(.int .i64 n54), (.int .i64 n48), (.int .i64 n45)]))]) w49.drew fun v55 w56 => ∃ (A57 : Option Addr) (n58 c59 : Nat), v55 = .slice A57 n58 c59 ∧ ((Run Tryz.prog (Builtin.append_ #[26, 26] 26 #[(.slice A51 n52 c53), (.slice A57 n58 c59)]) w56 fun v60 w61 => ∃ (A62 : Option Addr) (n63 c64 : Nat), v60 = .slice A62 n63 c64 ∧ ((stCells (p0.add 1) [(.slice A62 n63 c64)] 0 w61 fun w65 => K (.bool true) w65) ∧ True)) ∧ True)) ∧ True)) ∧ True)) ∧ (∃ (n66 : Int), w49.drew.cell? (((a50.add ((n31.toNat) * 4)).add 2).add 0) = some (.int .i64 n66) ∧ ((∃ (A67 : Option Addr) (n68 : Nat) (c69 : Nat), w49.drew.cell? ((p0.add 1).add 0) = some (.slice A67 n68 c69) ∧ ((Run Tryz.prog (Instr.buildSlice 26 2 #[(0, (.agg #[(.int .i64 (IntKind.wrap .i64 (n31 + 1))), (.int .i64 n48), (.int .i64 (bitNot .i64 n32 n45))])), (1, (.agg #[(.int .i64 n66), (.int .i64 n48), (.int .i64 n45)]))]) w49.drew fun v70 w71 => ∃ (A72 : Option Addr) (n73 c74 : Nat), v70 = .slice A72 n73 c74 ∧ ((Run Tryz.prog (Builtin.append_ #[26, 26] 26 #[(.slice A67 n68 c69), (.slice A72 n73 c74)]) w71 fun v75 w76 => ∃ (A77 : Option Addr) (n78 c79 : Nat), v75 = .slice A77 n78 c79 ∧ ((stCells (p0.add 1) [(.slice A77 n78 c79)] 0 w76 fun w80 => K (.bool true) w80) ∧ True)) ∧ True)) ∧ True)) ∧ (Run Tryz.prog (Instr.buildSlice 26 2 #[(0, (.agg #[(.int .i64 (IntKind.wrap .i64 (n31 + 1))), (.int .i64 n48), (.int .i64 (bitNot .i64 n32 n45))])), (1, (.agg #[(.int .i64 n66), (.int .i64 n48), (.int .i64 n45)]))]) w49.drew fun v81 w82 => ∃ (A83 : Option Addr) (n84 c85 : Nat), v81 = .slice A83 n84 c85 ∧ ((∃ (A86 : Option Addr) (n87 : Nat) (c88 : Nat), w82.cell? ((p0.add 1).add 0) = some (.slice A86 n87 c88) ∧ ((Run Tryz.prog (Builtin.append_ #[26, 26] 26 #[(.slice A86 n87 c88), (.slice A83 n84 c85)]) w82 fun v89 w90 => ∃ (A91 : Option Addr) (n92 c93 : Nat), v89 = .slice A91 n92 c93 ∧ ((stCells (p0.add 1) [(.slice A91 n92 c93)] 0 w90 fun w94 => K (.bool true) w94) ∧ True)) ∧ True)) ∧ True)) ∧ True)) ∧ True))))))))

def impl_Warp_separate.ann : Ann := (.seq .l (.seq (.seq .l (.two (.seq .l .l) .l)) (.seq .l (.seq .l (.seq .l (.seq .l (.seq .l (.seq .each (.seq .l .l)))))))))

theorem impl_Warp_separate.con {s0 : D.Warp} {g1_ : Nat} {A0_1 : Option Addr} {c0_1 : Nat} {A0_2 : Option Addr} {c0_2 : Nat} {o1_ : Nat} {R1_ : Array Value} {xs1 : List D.Ins} {A1 : Option Addr} {c1 : Nat} {r : Bool × D.Warp} {w : World} (hp : M.impl_Warp_separate_pre s0 xs1) (hr : r = M.impl_Warp_separate s0 xs1) (O1 : Plc w g1_ o1_ 29 R1_ #[(.int .i64 s0.Number), (.slice A0_1 s0.Frames.length c0_1), (.slice A0_2 s0.Regs.length c0_2)]) (O2 : Own el105 w 0 A0_1 c0_1 s0.Frames) (R0_2 : Row el3 w A0_2 s0.Regs) (hc0_2 : s0.Regs.length ≤ c0_2) (R1 : Row el91 w A1 xs1) (hc1 : xs1.length ≤ c1) (D0_2 : s0.Regs ≠ [] → ∀ g, InB A0_2 g → ¬ (fun k_ => InB A0_1 k_ ∨ k_ = g1_) g) (D1 : xs1 ≠ [] → ∀ g, InB A1 g → ¬ (fun k_ => InB A0_1 k_ ∨ k_ = g1_) g) :
    Cll Tryz.prog 161 #[(.pointer (some (⟨g1_, o1_, none⟩ : Addr))), (.slice A1 xs1.length c1)] w (fun v_ w_ => ∃ (A0_ : Option Addr) (c0_ : Nat), v_ = (.bool r.1) ∧ Plc w_ g1_ o1_ 29 R1_ #[(.int .i64 r.2.Number), (.slice A0_ r.2.Frames.length c0_), (.slice A0_2 r.2.Regs.length c0_2)] ∧ Own el105 w_ 0 A0_ c0_ r.2.Frames ∧ Mov w A0_1 A0_ ∧ r.2.Regs = s0.Regs ∧ Chg (fun k_ => InB A0_1 k_ ∨ k_ = g1_) w w_) := by
  have H := wp.impl_Warp_separate.math s0 xs1 hp
  have hB := Chg.refl (fun k_ => InB A0_1 k_ ∨ k_ = g1_) w
  refine beginF mixed (fn := Tryz.f161) (by kernel_rfl) (by kernel_rfl) (an := impl_Warp_separate.ann) (V := impl_Warp_separate.vc (⟨g1_, o1_, none⟩ : Addr) A1 xs1.length c1) (by kernel_rfl) ?_
  unfold impl_Warp_separate.vc
  unfold wp.impl_Warp_separate at H
  refine ⟨_, _, _, (O1.at 1 rfl rfl), ?_⟩
  refine brc H (fun hc84 H => ?_) (fun hc84 H => ?_)
  ·obtain rfl := hr.trans H.symm
   exact ⟨A0_1, c0_1, rfl, O1, (O2.mono (Nat.zero_le _)), (Mov.same _ _), rfl, hB⟩
  refine ⟨_, _, _, (O1.at 1 rfl rfl), _, _, _, (O1.at 1 rfl rfl), ?_⟩
  obtain ⟨⟨h0_25, h1_26⟩, H⟩ := H
  obtain ⟨a23, ha24, hat22⟩ := Row.at O2.row h0_25 h1_26
  refine ⟨h0_25, h1_26, a23, ha24, ?_⟩
  have O1 := O1.ext (Ext.drew _)
  have O2 := O2.ext (Ext.drew _)
  have hB := hB.then (Ext.drew _)
  have hat28 := Row.re O2.row ha24 h0_25 (by first | exact h1_26 | omega | (simp at h1_26 ⊢; omega))
  refine ⟨_, (hat28 0 _ rfl), ?_⟩
  have hat29 := Row.re O2.row ha24 h0_25 (by first | exact h1_26 | omega | (simp at h1_26 ⊢; omega))
  refine ⟨_, (hat29 2 _ rfl), ?_⟩
  have O1 := O1.ext (Ext.drew _)
  have O2 := O2.ext (Ext.drew _)
  have hB := hB.then (Ext.drew _)
  refine ⟨(fun _ => False), _, ⟨(fun h_ => h_), (O1.at 0 rfl rfl)⟩, _, _, _, ⟨(fun h_ => h_), (O1.at 1 rfl rfl)⟩, _, _, _, ⟨(fun h_ => h_), (O1.at 2 rfl rfl)⟩, ?_⟩
  obtain ⟨⟨h0_34, h1_35⟩, H⟩ := H
  obtain ⟨a32, ha33, hat31⟩ := Row.at (R1.chgS hB D1) h0_34 h1_35
  refine ⟨h0_34, h1_35, a32, ha33, _, ⟨(fun h_ => h_), (hat31 1 _ rfl)⟩, ?_⟩
  have hS30 := Chg.refl (fun _ => False) w.drew.drew
  have O1 := O1.ext (Ext.drew _)
  have O2 := O2.ext (Ext.drew _)
  have hB := hB.then (Ext.drew _)
  have hS30 := hS30.then (Ext.drew _)
  obtain ⟨hp38, H⟩ := H
  obtain ⟨r36, hr37, H⟩ := callO H
  refine (impl_Warp_zeroMask.con hp38 hr37 O2.row O2.le (R0_2.chgS hB D0_2) hc0_2).mono ?_
  rintro _ w39 ⟨rfl, e40⟩
  have O1 := O1.ext e40
  have O2 := O2.ext e40
  have hB := hB.then e40
  have hS30 := hS30.then e40
  refine ⟨r36, rfl, sameBut_chg hS30, ?_⟩
  obtain ⟨hp43, H⟩ := H
  obtain ⟨r41, hr42, H⟩ := callO H
  refine (impl_JoinOf.con hp43 hr42 (R1.chgS hB D1) hc1).mono ?_
  rintro _ w44 ⟨rfl, e45⟩
  have O1 := O1.ext e45
  have O2 := O2.ext e45
  have hB := hB.then e45
  refine ⟨r41, rfl, ?_⟩
  refine Own.storeAt O2 ha24 h0_25 h1_26 0 [(.int .i64 r41)] (⟨r41, (rd s0.Frames (IntKind.wrap .i64 (((s0.Frames.length : Nat) : Int) - 1))).Stop, (rd s0.Frames (IntKind.wrap .i64 (((s0.Frames.length : Nat) : Int) - 1))).Mask⟩ : D.Frame) rfl (Nat.le_of_ble_eq_true rfl) rfl (fun w46 P2 e47 hb48 => ?_)
  have O1_ := O1.chg e47 (fun h_ => ((O2.apart_type O1.b (by decide))) _ ha24 h_.symm)
  have O1 := O1_
  have hB := hB.chgb e47 (Or.inr (Or.inl ⟨_, ha24, rfl⟩))
  have O2 := P2
  have O1 := O1.ext (Ext.drew _)
  have O2 := O2.ext (Ext.drew _)
  have hB := hB.then (Ext.drew _)
  obtain ⟨⟨h0_52, h1_53⟩, H⟩ := H
  obtain ⟨a50, ha51, hat49⟩ := Row.at (R1.chgS hB D1) h0_52 h1_53
  refine ⟨h0_52, h1_53, a50, ha51, ?_⟩
  refine And.intro ?_ ?_
  ·have H := H.1
   refine ⟨_, _, _, (O1.at 1 rfl rfl), ?_⟩
   refine and_t ?_
   refine ⟨_, (hat49 2 _ rfl), ?_⟩
   refine and_t ?_
   refine buildOwn el105 ([(⟨(IntKind.wrap .i64 ((rd s0.Frames (IntKind.wrap .i64 (((s0.Frames.length : Nat) : Int) - 1))).Pc + 1)), r41, (bitNot .i64 ((rd s0.Frames (IntKind.wrap .i64 (((s0.Frames.length : Nat) : Int) - 1))).Mask) r36)⟩ : D.Frame), (⟨(rd xs1 ((rd s0.Frames (IntKind.wrap .i64 (((s0.Frames.length : Nat) : Int) - 1))).Pc)).B, r41, r36⟩ : D.Frame)] : List D.Frame) (fun _ => by kernel_rfl) rfl (fun A54 w55 P5 e56 => ?_)
   have N5_1 := P5.apart_old O1.lt
   have N2_5 := Own.apart2_new O2 P5 (Nat.le_refl _)
   have O1 := O1.ext e56
   have O2 := O2.ext e56
   have O5 := P5.mono hB.size
   have hB := hB.then e56
   refine and_t ?_
   have O6 := O2
   have Mv6 := Mov.same w A0_1
   obtain ⟨hl61, H⟩ := H
   refine appOwnB slt26 slt26.under O6 O5.row (Nat.zero_le _) (by first | rfl | omega | (simp; done) | (simp; omega)) (by first | rfl | omega | (simp; done) | (simp; omega)) hl61 (fun A57 c58 w59 P6 e60 => ?_)
   have N6_1_ := Apart.app (O6.apart_type O1.b (by decide)) e60 O1.lt
   have O1 := O1.app e60 (O6.apart_type O1.b (by decide))
   have N5_6_ := Apart2.app (N2_5).symm e60 O5
   have O5 := O5.app e60 (N2_5).symm
   have N6_1 := N6_1_
   have N5_6 := N5_6_
   have hBs_ := hB.size
   have hB := hB.app e60 (fun g h_ => (mv_or Mv6 h_ (fun h_ => (Or.inl h_))))
   have O6 := P6
   have Mw6 := Mov.trans Mv6 e60.blk hBs_
   refine and_t ?_
   refine stPlc O1 (j := 1) (cs' := #[(.int .i64 s0.Number), (.slice A57 ((((List.set s0.Frames ((IntKind.wrap .i64 (((s0.Frames.length : Nat) : Int) - 1)).toNat) (⟨r41, (rd s0.Frames (IntKind.wrap .i64 (((s0.Frames.length : Nat) : Int) - 1))).Stop, (rd s0.Frames (IntKind.wrap .i64 (((s0.Frames.length : Nat) : Int) - 1))).Mask⟩ : D.Frame)) ++ ([(⟨(IntKind.wrap .i64 ((rd s0.Frames (IntKind.wrap .i64 (((s0.Frames.length : Nat) : Int) - 1))).Pc + 1)), r41, (bitNot .i64 ((rd s0.Frames (IntKind.wrap .i64 (((s0.Frames.length : Nat) : Int) - 1))).Mask) r36)⟩ : D.Frame), (⟨(rd xs1 ((rd s0.Frames (IntKind.wrap .i64 (((s0.Frames.length : Nat) : Int) - 1))).Pc)).B, r41, r36⟩ : D.Frame)] : List D.Frame))).length) c58), (.slice A0_2 s0.Regs.length c0_2)]) rfl rfl (Nat.le_of_ble_eq_true rfl) rfl (fun w62 P1 e63 => ?_)
   have O5_ := O5.chg e63 N5_1
   have O6_ := O6.chg e63 N6_1
   have O5 := O5_
   have O6 := O6_
   have hB := hB.chgb e63 (Or.inr (Or.inr rfl))
   have O1 := P1
   obtain rfl := hr.trans H.symm
   exact ⟨A57, c58, rfl, O1, (O6.mono (Nat.zero_le _)), Mw6, rfl, hB⟩
  refine And.intro ?_ ?_
  ·have H := H.2.1
   refine ⟨_, (hat49 2 _ rfl), ?_⟩
   refine And.intro ?_ ?_
   ·have H := H.1
    refine ⟨_, _, _, (O1.at 1 rfl rfl), ?_⟩
    refine and_t ?_
    refine buildOwn el105 ([(⟨(IntKind.wrap .i64 ((rd s0.Frames (IntKind.wrap .i64 (((s0.Frames.length : Nat) : Int) - 1))).Pc + 1)), r41, (bitNot .i64 ((rd s0.Frames (IntKind.wrap .i64 (((s0.Frames.length : Nat) : Int) - 1))).Mask) r36)⟩ : D.Frame), (⟨(rd xs1 ((rd s0.Frames (IntKind.wrap .i64 (((s0.Frames.length : Nat) : Int) - 1))).Pc)).B, r41, r36⟩ : D.Frame)] : List D.Frame) (fun _ => by kernel_rfl) rfl (fun A64 w65 P7 e66 => ?_)
    have N7_1 := P7.apart_old O1.lt
    have N2_7 := Own.apart2_new O2 P7 (Nat.le_refl _)
    have O1 := O1.ext e66
    have O2 := O2.ext e66
    have O7 := P7.mono hB.size
    have hB := hB.then e66
    refine and_t ?_
    have O8 := O2
    have Mv8 := Mov.same w A0_1
    obtain ⟨hl71, H⟩ := H
    refine appOwnB slt26 slt26.under O8 O7.row (Nat.zero_le _) (by first | rfl | omega | (simp; done) | (simp; omega)) (by first | rfl | omega | (simp; done) | (simp; omega)) hl71 (fun A67 c68 w69 P8 e70 => ?_)
    have N8_1_ := Apart.app (O8.apart_type O1.b (by decide)) e70 O1.lt
    have O1 := O1.app e70 (O8.apart_type O1.b (by decide))
    have N7_8_ := Apart2.app (N2_7).symm e70 O7
    have O7 := O7.app e70 (N2_7).symm
    have N8_1 := N8_1_
    have N7_8 := N7_8_
    have hBs_ := hB.size
    have hB := hB.app e70 (fun g h_ => (mv_or Mv8 h_ (fun h_ => (Or.inl h_))))
    have O8 := P8
    have Mw8 := Mov.trans Mv8 e70.blk hBs_
    refine and_t ?_
    refine stPlc O1 (j := 1) (cs' := #[(.int .i64 s0.Number), (.slice A67 ((((List.set s0.Frames ((IntKind.wrap .i64 (((s0.Frames.length : Nat) : Int) - 1)).toNat) (⟨r41, (rd s0.Frames (IntKind.wrap .i64 (((s0.Frames.length : Nat) : Int) - 1))).Stop, (rd s0.Frames (IntKind.wrap .i64 (((s0.Frames.length : Nat) : Int) - 1))).Mask⟩ : D.Frame)) ++ ([(⟨(IntKind.wrap .i64 ((rd s0.Frames (IntKind.wrap .i64 (((s0.Frames.length : Nat) : Int) - 1))).Pc + 1)), r41, (bitNot .i64 ((rd s0.Frames (IntKind.wrap .i64 (((s0.Frames.length : Nat) : Int) - 1))).Mask) r36)⟩ : D.Frame), (⟨(rd xs1 ((rd s0.Frames (IntKind.wrap .i64 (((s0.Frames.length : Nat) : Int) - 1))).Pc)).B, r41, r36⟩ : D.Frame)] : List D.Frame))).length) c68), (.slice A0_2 s0.Regs.length c0_2)]) rfl rfl (Nat.le_of_ble_eq_true rfl) rfl (fun w72 P1 e73 => ?_)
    have O7_ := O7.chg e73 N7_1
    have O8_ := O8.chg e73 N8_1
    have O7 := O7_
    have O8 := O8_
    have hB := hB.chgb e73 (Or.inr (Or.inr rfl))
    have O1 := P1
    obtain rfl := hr.trans H.symm
    exact ⟨A67, c68, rfl, O1, (O8.mono (Nat.zero_le _)), Mw8, rfl, hB⟩
   refine And.intro ?_ ?_
   ·have H := H.2.1
    refine buildOwn el105 ([(⟨(IntKind.wrap .i64 ((rd s0.Frames (IntKind.wrap .i64 (((s0.Frames.length : Nat) : Int) - 1))).Pc + 1)), r41, (bitNot .i64 ((rd s0.Frames (IntKind.wrap .i64 (((s0.Frames.length : Nat) : Int) - 1))).Mask) r36)⟩ : D.Frame), (⟨(rd xs1 ((rd s0.Frames (IntKind.wrap .i64 (((s0.Frames.length : Nat) : Int) - 1))).Pc)).B, r41, r36⟩ : D.Frame)] : List D.Frame) (fun _ => by kernel_rfl) rfl (fun A74 w75 P9 e76 => ?_)
    have N9_1 := P9.apart_old O1.lt
    have N2_9 := Own.apart2_new O2 P9 (Nat.le_refl _)
    have O1 := O1.ext e76
    have O2 := O2.ext e76
    have O9 := P9.mono hB.size
    have hB := hB.then e76
    refine and_t ?_
    refine ⟨_, _, _, (O1.at 1 rfl rfl), ?_⟩
    refine and_t ?_
    have O10 := O2
    have Mv10 := Mov.same w A0_1
    obtain ⟨hl81, H⟩ := H
    refine appOwnB slt26 slt26.under O10 O9.row (Nat.zero_le _) (by first | rfl | omega | (simp; done) | (simp; omega)) (by first | rfl | omega | (simp; done) | (simp; omega)) hl81 (fun A77 c78 w79 P10 e80 => ?_)
    have N10_1_ := Apart.app (O10.apart_type O1.b (by decide)) e80 O1.lt
    have O1 := O1.app e80 (O10.apart_type O1.b (by decide))
    have N9_10_ := Apart2.app (N2_9).symm e80 O9
    have O9 := O9.app e80 (N2_9).symm
    have N10_1 := N10_1_
    have N9_10 := N9_10_
    have hBs_ := hB.size
    have hB := hB.app e80 (fun g h_ => (mv_or Mv10 h_ (fun h_ => (Or.inl h_))))
    have O10 := P10
    have Mw10 := Mov.trans Mv10 e80.blk hBs_
    refine and_t ?_
    refine stPlc O1 (j := 1) (cs' := #[(.int .i64 s0.Number), (.slice A77 ((((List.set s0.Frames ((IntKind.wrap .i64 (((s0.Frames.length : Nat) : Int) - 1)).toNat) (⟨r41, (rd s0.Frames (IntKind.wrap .i64 (((s0.Frames.length : Nat) : Int) - 1))).Stop, (rd s0.Frames (IntKind.wrap .i64 (((s0.Frames.length : Nat) : Int) - 1))).Mask⟩ : D.Frame)) ++ ([(⟨(IntKind.wrap .i64 ((rd s0.Frames (IntKind.wrap .i64 (((s0.Frames.length : Nat) : Int) - 1))).Pc + 1)), r41, (bitNot .i64 ((rd s0.Frames (IntKind.wrap .i64 (((s0.Frames.length : Nat) : Int) - 1))).Mask) r36)⟩ : D.Frame), (⟨(rd xs1 ((rd s0.Frames (IntKind.wrap .i64 (((s0.Frames.length : Nat) : Int) - 1))).Pc)).B, r41, r36⟩ : D.Frame)] : List D.Frame))).length) c78), (.slice A0_2 s0.Regs.length c0_2)]) rfl rfl (Nat.le_of_ble_eq_true rfl) rfl (fun w82 P1 e83 => ?_)
    have O9_ := O9.chg e83 N9_1
    have O10_ := O10.chg e83 N10_1
    have O9 := O9_
    have O10 := O10_
    have hB := hB.chgb e83 (Or.inr (Or.inr rfl))
    have O1 := P1
    obtain rfl := hr.trans H.symm
    exact ⟨A77, c78, rfl, O1, (O10.mono (Nat.zero_le _)), Mw10, rfl, hB⟩
   exact trivial
  exact trivial
def impl_apply_v.vc (x0_0 : Int) (x0_1 : Int) (x0_2 : Int) (x0_3 : Int) (x1 : Int) (A2 : Option Addr) (n2 : Nat) (c2 : Nat) (w : World) (K : Value → World → Prop) : Prop :=
  newK w (.cells #[(.int .i64 x0_0), (.int .i64 x0_1), (.int .i64 x0_2), (.int .i64 x0_3)] 91) fun g21 w22 => ∃ (n23 : Int), w22.cell? (((⟨g21, 0, none⟩ : Addr).add 0).add 0) = some (.int .i64 n23) ∧ bcase (n23 == 1) (∃ (n24 : Int), w22.cell? (((⟨g21, 0, none⟩ : Addr).add 1).add 0) = some (.int .i64 n24) ∧ ∃ (n25 : Int), w22.cell? (((⟨g21, 0, none⟩ : Addr).add 2).add 0) = some (.int .i64 n25) ∧ ((0 : Int) ≤ n24 ∧ n24 < ((n2 : Nat) : Int) ∧ ∃ a26 : Addr, A2 = some a26 ∧ stCells (a26.add ((n24.toNat) * 1)) [(.int .i64 n25)] 0 w22 fun w27 => K (.tuple #[]) w27)) (bcase (n23 == 2) ((∃ M28 : Nat → Prop, ∃ (n29 : Int), (¬ M28 (((⟨g21, 0, none⟩ : Addr).add 1)).block ∧ w22.cell? (((⟨g21, 0, none⟩ : Addr).add 1).add 0) = some (.int .i64 n29)) ∧ ∃ (n30 : Int), (¬ M28 (((⟨g21, 0, none⟩ : Addr).add 2)).block ∧ w22.cell? (((⟨g21, 0, none⟩ : Addr).add 2).add 0) = some (.int .i64 n30)) ∧ ((0 : Int) ≤ n30 ∧ n30 < ((n2 : Nat) : Int) ∧ ∃ a31 : Addr, A2 = some a31 ∧ ∃ (n32 : Int), (¬ M28 ((a31.add ((n30.toNat) * 1))).block ∧ w22.cell? ((a31.add ((n30.toNat) * 1)).add 0) = some (.int .i64 n32)) ∧ ((0 : Int) ≤ n29 ∧ n29 < ((n2 : Nat) : Int) ∧ ∃ a33 : Addr, A2 = some a33 ∧ stCells (a33.add ((n29.toNat) * 1)) [(.int .i64 n32)] 0 w22.drew fun w34 => K (.tuple #[]) w34)))) (bcase (n23 == 3) ((∃ M35 : Nat → Prop, ∃ (n36 : Int), (¬ M35 (((⟨g21, 0, none⟩ : Addr).add 1)).block ∧ w22.cell? (((⟨g21, 0, none⟩ : Addr).add 1).add 0) = some (.int .i64 n36)) ∧ ∃ (n37 : Int), (¬ M35 (((⟨g21, 0, none⟩ : Addr).add 2)).block ∧ w22.cell? (((⟨g21, 0, none⟩ : Addr).add 2).add 0) = some (.int .i64 n37)) ∧ ((0 : Int) ≤ n37 ∧ n37 < ((n2 : Nat) : Int) ∧ ∃ a38 : Addr, A2 = some a38 ∧ ∃ (n39 : Int), (¬ M35 ((a38.add ((n37.toNat) * 1))).block ∧ w22.cell? ((a38.add ((n37.toNat) * 1)).add 0) = some (.int .i64 n39)) ∧ ∃ (n40 : Int), (¬ M35 (((⟨g21, 0, none⟩ : Addr).add 3)).block ∧ w22.cell? (((⟨g21, 0, none⟩ : Addr).add 3).add 0) = some (.int .i64 n40)) ∧ ((0 : Int) ≤ n40 ∧ n40 < ((n2 : Nat) : Int) ∧ ∃ a41 : Addr, A2 = some a41 ∧ ∃ (n42 : Int), (¬ M35 ((a41.add ((n40.toNat) * 1))).block ∧ w22.cell? ((a41.add ((n40.toNat) * 1)).add 0) = some (.int .i64 n42)) ∧ Cll Tryz.prog 181 #[(.int .i64 n39), (.int .i64 n42)] w22.drew fun v43 w44 => (∃ (n45 : Int), v43 = (.int .i64 n45) ∧ SameBut M35 w22 w44 ∧ ((0 : Int) ≤ n36 ∧ n36 < ((n2 : Nat) : Int) ∧ ∃ a46 : Addr, A2 = some a46 ∧ stCells (a46.add ((n36.toNat) * 1)) [(.int .i64 n45)] 0 w44 fun w47 => K (.tuple #[]) w47)))))) (bcase (n23 == 4) ((∃ M48 : Nat → Prop, ∃ (n49 : Int), (¬ M48 (((⟨g21, 0, none⟩ : Addr).add 1)).block ∧ w22.cell? (((⟨g21, 0, none⟩ : Addr).add 1).add 0) = some (.int .i64 n49)) ∧ ∃ (n50 : Int), (¬ M48 (((⟨g21, 0, none⟩ : Addr).add 2)).block ∧ w22.cell? (((⟨g21, 0, none⟩ : Addr).add 2).add 0) = some (.int .i64 n50)) ∧ ((0 : Int) ≤ n50 ∧ n50 < ((n2 : Nat) : Int) ∧ ∃ a51 : Addr, A2 = some a51 ∧ ∃ (n52 : Int), (¬ M48 ((a51.add ((n50.toNat) * 1))).block ∧ w22.cell? ((a51.add ((n50.toNat) * 1)).add 0) = some (.int .i64 n52)) ∧ ∃ (n53 : Int), (¬ M48 (((⟨g21, 0, none⟩ : Addr).add 3)).block ∧ w22.cell? (((⟨g21, 0, none⟩ : Addr).add 3).add 0) = some (.int .i64 n53)) ∧ ((0 : Int) ≤ n53 ∧ n53 < ((n2 : Nat) : Int) ∧ ∃ a54 : Addr, A2 = some a54 ∧ ∃ (n55 : Int), (¬ M48 ((a54.add ((n53.toNat) * 1))).block ∧ w22.cell? ((a54.add ((n53.toNat) * 1)).add 0) = some (.int .i64 n55)) ∧ Cll Tryz.prog 223 #[(.int .i64 n52), (.int .i64 n55)] w22.drew fun v56 w57 => (∃ (n58 : Int), v56 = (.int .i64 n58) ∧ SameBut M48 w22 w57 ∧ ((0 : Int) ≤ n49 ∧ n49 < ((n2 : Nat) : Int) ∧ ∃ a59 : Addr, A2 = some a59 ∧ stCells (a59.add ((n49.toNat) * 1)) [(.int .i64 n58)] 0 w57 fun w60 => K (.tuple #[]) w60)))))) (bcase (n23 == 5) ((∃ M61 : Nat → Prop, ∃ (n62 : Int), (¬ M61 (((⟨g21, 0, none⟩ : Addr).add 1)).block ∧ w22.cell? (((⟨g21, 0, none⟩ : Addr).add 1).add 0) = some (.int .i64 n62)) ∧ ∃ (n63 : Int), (¬ M61 (((⟨g21, 0, none⟩ : Addr).add 2)).block ∧ w22.cell? (((⟨g21, 0, none⟩ : Addr).add 2).add 0) = some (.int .i64 n63)) ∧ ((0 : Int) ≤ n63 ∧ n63 < ((n2 : Nat) : Int) ∧ ∃ a64 : Addr, A2 = some a64 ∧ ∃ (n65 : Int), (¬ M61 ((a64.add ((n63.toNat) * 1))).block ∧ w22.cell? ((a64.add ((n63.toNat) * 1)).add 0) = some (.int .i64 n65)) ∧ ∃ (n66 : Int), (¬ M61 (((⟨g21, 0, none⟩ : Addr).add 3)).block ∧ w22.cell? (((⟨g21, 0, none⟩ : Addr).add 3).add 0) = some (.int .i64 n66)) ∧ ((0 : Int) ≤ n66 ∧ n66 < ((n2 : Nat) : Int) ∧ ∃ a67 : Addr, A2 = some a67 ∧ ∃ (n68 : Int), (¬ M61 ((a67.add ((n66.toNat) * 1))).block ∧ w22.cell? ((a67.add ((n66.toNat) * 1)).add 0) = some (.int .i64 n68)) ∧ Cll Tryz.prog 224 #[(.int .i64 n65), (.int .i64 n68)] w22.drew fun v69 w70 => (∃ (n71 : Int), v69 = (.int .i64 n71) ∧ SameBut M61 w22 w70 ∧ ((0 : Int) ≤ n62 ∧ n62 < ((n2 : Nat) : Int) ∧ ∃ a72 : Addr, A2 = some a72 ∧ stCells (a72.add ((n62.toNat) * 1)) [(.int .i64 n71)] 0 w70 fun w73 => K (.tuple #[]) w73)))))) (bcase (n23 == 6) ((∃ M74 : Nat → Prop, ∃ (n75 : Int), (¬ M74 (((⟨g21, 0, none⟩ : Addr).add 1)).block ∧ w22.cell? (((⟨g21, 0, none⟩ : Addr).add 1).add 0) = some (.int .i64 n75)) ∧ ∃ (n76 : Int), (¬ M74 (((⟨g21, 0, none⟩ : Addr).add 2)).block ∧ w22.cell? (((⟨g21, 0, none⟩ : Addr).add 2).add 0) = some (.int .i64 n76)) ∧ ((0 : Int) ≤ n76 ∧ n76 < ((n2 : Nat) : Int) ∧ ∃ a77 : Addr, A2 = some a77 ∧ ∃ (n78 : Int), (¬ M74 ((a77.add ((n76.toNat) * 1))).block ∧ w22.cell? ((a77.add ((n76.toNat) * 1)).add 0) = some (.int .i64 n78)) ∧ ∃ (n79 : Int), (¬ M74 (((⟨g21, 0, none⟩ : Addr).add 3)).block ∧ w22.cell? (((⟨g21, 0, none⟩ : Addr).add 3).add 0) = some (.int .i64 n79)) ∧ ((0 : Int) ≤ n79 ∧ n79 < ((n2 : Nat) : Int) ∧ ∃ a80 : Addr, A2 = some a80 ∧ ∃ (n81 : Int), (¬ M74 ((a80.add ((n79.toNat) * 1))).block ∧ w22.cell? ((a80.add ((n79.toNat) * 1)).add 0) = some (.int .i64 n81)) ∧ ((0 : Int) ≤ n75 ∧ n75 < ((n2 : Nat) : Int) ∧ ∃ a82 : Addr, A2 = some a82 ∧ stCells (a82.add ((n75.toNat) * 1)) [(.int .i64 (bitXor .i64 n78 n81))] 0 w22.drew fun w83 => K (.tuple #[]) w83))))) (bcase (n23 == 7) ((∃ M84 : Nat → Prop, ∃ (n85 : Int), (¬ M84 (((⟨g21, 0, none⟩ : Addr).add 1)).block ∧ w22.cell? (((⟨g21, 0, none⟩ : Addr).add 1).add 0) = some (.int .i64 n85)) ∧ ∃ (n86 : Int), (¬ M84 (((⟨g21, 0, none⟩ : Addr).add 2)).block ∧ w22.cell? (((⟨g21, 0, none⟩ : Addr).add 2).add 0) = some (.int .i64 n86)) ∧ ((0 : Int) ≤ n86 ∧ n86 < ((n2 : Nat) : Int) ∧ ∃ a87 : Addr, A2 = some a87 ∧ ∃ (n88 : Int), (¬ M84 ((a87.add ((n86.toNat) * 1))).block ∧ w22.cell? ((a87.add ((n86.toNat) * 1)).add 0) = some (.int .i64 n88)) ∧ ∃ (n89 : Int), (¬ M84 (((⟨g21, 0, none⟩ : Addr).add 3)).block ∧ w22.cell? (((⟨g21, 0, none⟩ : Addr).add 3).add 0) = some (.int .i64 n89)) ∧ ((0 : Int) ≤ n89 ∧ n89 < ((n2 : Nat) : Int) ∧ ∃ a90 : Addr, A2 = some a90 ∧ ∃ (n91 : Int), (¬ M84 ((a90.add ((n89.toNat) * 1))).block ∧ w22.cell? ((a90.add ((n89.toNat) * 1)).add 0) = some (.int .i64 n91)) ∧ Cll Tryz.prog 225 #[(.int .i64 n88), (.int .i64 n91)] w22.drew fun v92 w93 => (∃ (n94 : Int), v92 = (.int .i64 n94) ∧ SameBut M84 w22 w93 ∧ ((0 : Int) ≤ n85 ∧ n85 < ((n2 : Nat) : Int) ∧ ∃ a95 : Addr, A2 = some a95 ∧ stCells (a95.add ((n85.toNat) * 1)) [(.int .i64 n94)] 0 w93 fun w96 => K (.tuple #[]) w96)))))) (bcase (n23 == 8) (∃ (n97 : Int), w22.cell? (((⟨g21, 0, none⟩ : Addr).add 1).add 0) = some (.int .i64 n97) ∧ ((0 : Int) ≤ n97 ∧ n97 < ((n2 : Nat) : Int) ∧ ∃ a98 : Addr, A2 = some a98 ∧ stCells (a98.add ((n97.toNat) * 1)) [(.int .i64 x1)] 0 w22 fun w99 => K (.tuple #[]) w99)) (bcase (n23 == 9) (∃ (n100 : Int), w22.cell? (((⟨g21, 0, none⟩ : Addr).add 3).add 0) = some (.int .i64 n100) ∧ ((0 : Int) ≤ n100 ∧ n100 < ((n2 : Nat) : Int) ∧ ∃ a101 : Addr, A2 = some a101 ∧ ∃ (n102 : Int), w22.cell? ((a101.add ((n100.toNat) * 1)).add 0) = some (.int .i64 n102) ∧ bcase (n102 != 0) ((∃ M103 : Nat → Prop, ∃ (n104 : Int), (¬ M103 (((⟨g21, 0, none⟩ : Addr).add 1)).block ∧ w22.cell? (((⟨g21, 0, none⟩ : Addr).add 1).add 0) = some (.int .i64 n104)) ∧ ∃ (n105 : Int), (¬ M103 (((⟨g21, 0, none⟩ : Addr).add 2)).block ∧ w22.cell? (((⟨g21, 0, none⟩ : Addr).add 2).add 0) = some (.int .i64 n105)) ∧ ((0 : Int) ≤ n105 ∧ n105 < ((n2 : Nat) : Int) ∧ ∃ a106 : Addr, A2 = some a106 ∧ ∃ (n107 : Int), (¬ M103 ((a106.add ((n105.toNat) * 1))).block ∧ w22.cell? ((a106.add ((n105.toNat) * 1)).add 0) = some (.int .i64 n107)) ∧ ((0 : Int) ≤ n104 ∧ n104 < ((n2 : Nat) : Int) ∧ ∃ a108 : Addr, A2 = some a108 ∧ stCells (a108.add ((n104.toNat) * 1)) [(.int .i64 n107)] 0 w22.drew fun w109 => K (.tuple #[]) w109)))) (K (.tuple #[]) w22))) (K (.tuple #[]) w22)))))))))

def impl_apply_v.ann : Ann := (.seq .l (.seq .l (.one (.seq .l (.two .l (.seq .l (.two .l (.seq .l (.two .l (.seq .l (.two .l (.seq .l (.two .l (.seq .l (.two .l (.seq .l (.two .l (.seq .l (.two .l (.seq .l (.two (.seq .l (.two .l .l)) .l)))))))))))))))))))))

theorem impl_apply_v.con {s0 : D.Ins} {x1 : Int} {xs2 : List Int} {lo2 hi2 : Nat} {A2 : Option Addr} {c2 : Nat} {r : (List Int)} {w : World} (hp : M.impl_apply_v_pre s0 x1 xs2 lo2 hi2) (hr : r = M.impl_apply_v s0 x1 xs2 lo2 hi2) (O1 : Own el3 w 0 A2 c2 xs2) (hv2 : lo2 ≤ (List.take hi2 xs2).length) :
    Cll Tryz.prog 192 #[(.agg #[(.int .i64 s0.Op), (.int .i64 s0.A), (.int .i64 s0.B), (.int .i64 s0.C)]), (.int .i64 x1), (.slice (cutA c2 lo2 A2 1) ((List.drop lo2 (List.take hi2 xs2)).length) (c2 - lo2))] w (fun v_ w_ => v_ = (.tuple #[]) ∧ Own el3 w_ 0 A2 c2 r ∧ r.length = xs2.length ∧ Chg (InB A2) w w_) := by
  have H := wp.impl_apply_v.math s0 x1 xs2 lo2 hi2 hp
  have hB := Chg.refl (InB A2) w
  refine beginF mixed (fn := Tryz.f192) (by kernel_rfl) (by kernel_rfl) (an := impl_apply_v.ann) (V := impl_apply_v.vc s0.Op s0.A s0.B s0.C x1 (cutA c2 lo2 A2 1) ((List.drop lo2 (List.take hi2 xs2)).length) (c2 - lo2)) (by kernel_rfl) ?_
  unfold impl_apply_v.vc
  unfold wp.impl_apply_v at H
  have O2 := (O1.take hi2).drop (l := lo2) hv2
  refine newBlk (fun g3_ w21 L3 P3 e22 => ?_)
  have N1_3 := O1.apart_new L3
  have N2_3 := O2.apart_new L3
  have O1 := O1.ext e22
  have O2 := O2.ext e22
  have O3 := P3
  have L3 := Nat.le_trans hB.size L3
  have hB := hB.then e22
  refine ⟨_, (O3.at 0 rfl rfl), ?_⟩
  refine brc H (fun hc303 H => ?_) (fun hc303 H => ?_)
  ·refine ⟨_, (O3.at 1 rfl rfl), _, (O3.at 2 rfl rfl), ?_⟩
   obtain ⟨⟨h0_26, h1_27⟩, H⟩ := H
   obtain ⟨a24, ha25, hat23⟩ := Row.at O2.row h0_26 h1_27
   refine ⟨h0_26, h1_27, a24, ha25, ?_⟩
   refine Own.storeCut (hi := hi2) O1 ha25 h0_26 h1_27 0 [(.int .i64 s0.B)] s0.B rfl (Nat.le_of_ble_eq_true rfl) rfl (fun w28 P1 e29 hb30 => ?_)
   obtain ⟨b31, hb32, hbe33⟩ := cut_blk ha25
   rw [← hbe33] at e29 hb30
   have O3_ := O3.chg e29 (fun h_ => (N1_3) _ hb32 h_.symm)
   have O3 := O3_
   have hB := hB.chgb e29 (Or.inr ⟨_, hb32, rfl⟩)
   have O1 := P1
   have O2 := (O1.take hi2).drop (l := lo2) (by first | (simp; done) | (simp at *; omega) | (simp; omega))
   obtain rfl := hr.trans H.symm
   exact ⟨rfl, O1, (by first | (simp only [List.length_set]; done) | (simp only [List.length_set, List.length_set]; done) | (simp; done) | (simp; omega) | omega), hB⟩
  refine brc H (fun hc302 H => ?_) (fun hc302 H => ?_)
  ·refine ⟨(fun _ => False), _, ⟨(fun h_ => h_), (O3.at 1 rfl rfl)⟩, _, ⟨(fun h_ => h_), (O3.at 2 rfl rfl)⟩, ?_⟩
   obtain ⟨⟨h0_38, h1_39⟩, H⟩ := H
   obtain ⟨a36, ha37, hat35⟩ := Row.at O2.row h0_38 h1_39
   refine ⟨h0_38, h1_39, a36, ha37, _, ⟨(fun h_ => h_), (hat35 0 _ rfl)⟩, ?_⟩
   obtain ⟨⟨h0_43, h1_44⟩, H⟩ := H
   obtain ⟨a41, ha42, hat40⟩ := Row.at O2.row h0_43 h1_44
   refine ⟨h0_43, h1_44, a41, ha42, ?_⟩
   have hS34 := Chg.refl (fun _ => False) w21
   have O1 := O1.ext (Ext.drew _)
   have O2 := O2.ext (Ext.drew _)
   have O3 := O3.ext (Ext.drew _)
   have hB := hB.then (Ext.drew _)
   have hS34 := hS34.then (Ext.drew _)
   refine Own.storeCut (hi := hi2) O1 ha42 h0_43 h1_44 0 [(.int .i64 (rd (List.drop lo2 (List.take hi2 xs2)) s0.B))] (rd (List.drop lo2 (List.take hi2 xs2)) s0.B) rfl (Nat.le_of_ble_eq_true rfl) rfl (fun w45 P1 e46 hb47 => ?_)
   obtain ⟨b48, hb49, hbe50⟩ := cut_blk ha42
   rw [← hbe50] at e46 hb47
   have O3_ := O3.chg e46 (fun h_ => (N1_3) _ hb49 h_.symm)
   have O3 := O3_
   have hB := hB.chgb e46 (Or.inr ⟨_, hb49, rfl⟩)
   have O1 := P1
   have O2 := (O1.take hi2).drop (l := lo2) (by first | (simp; done) | (simp at *; omega) | (simp; omega))
   obtain rfl := hr.trans H.symm
   exact ⟨rfl, O1, (by first | (simp only [List.length_set]; done) | (simp only [List.length_set, List.length_set]; done) | (simp; done) | (simp; omega) | omega), hB⟩
  refine brc H (fun hc301 H => ?_) (fun hc301 H => ?_)
  ·refine ⟨(fun _ => False), ?_⟩
   have hBz := hB
   have Z1 := O1
   have Z2 := O2
   have Z3 := O3
   refine ⟨_, ⟨(fun h_ => h_), (O3.at 1 rfl rfl)⟩, _, ⟨(fun h_ => h_), (O3.at 2 rfl rfl)⟩, ?_⟩
   obtain ⟨⟨h0_75, h1_76⟩, H⟩ := H
   obtain ⟨a73, ha74, hat72⟩ := Row.at O2.row h0_75 h1_76
   refine ⟨h0_75, h1_76, a73, ha74, _, ⟨(fun h_ => h_), (hat72 0 _ rfl)⟩, _, ⟨(fun h_ => h_), (O3.at 3 rfl rfl)⟩, ?_⟩
   obtain ⟨⟨h0_80, h1_81⟩, H⟩ := H
   obtain ⟨a78, ha79, hat77⟩ := Row.at O2.row h0_80 h1_81
   refine ⟨h0_80, h1_81, a78, ha79, _, ⟨(fun h_ => h_), (hat77 0 _ rfl)⟩, ?_⟩
   have hS51 := Chg.refl (fun _ => False) w21
   have O1 := O1.ext (Ext.drew _)
   have O2 := O2.ext (Ext.drew _)
   have O3 := O3.ext (Ext.drew _)
   have hB := hB.then (Ext.drew _)
   have hS51 := hS51.then (Ext.drew _)
   obtain ⟨r82, hr83, H⟩ := callO H
   refine (impl_AddWords.con hr83 ).mono ?_
   rintro _ w85 ⟨rfl, e86⟩
   have O1 := O1.ext e86
   have O2 := O2.ext e86
   have O3 := O3.ext e86
   have hB := hB.then e86
   have hS51 := hS51.then e86
   refine ⟨r82, rfl, sameBut_chg hS51, ?_⟩
   obtain ⟨⟨h0_90, h1_91⟩, H⟩ := H
   obtain ⟨a88, ha89, hat87⟩ := Row.at Z2.row h0_90 h1_91
   refine ⟨h0_90, h1_91, a88, ha89, ?_⟩
   refine Own.storeCut (hi := hi2) O1 ha89 h0_90 h1_91 0 [(.int .i64 r82)] r82 rfl (Nat.le_of_ble_eq_true rfl) rfl (fun w92 P1 e93 hb94 => ?_)
   obtain ⟨b95, hb96, hbe97⟩ := cut_blk ha89
   rw [← hbe97] at e93 hb94
   have O3_ := O3.chg e93 (fun h_ => (N1_3) _ hb96 h_.symm)
   have O3 := O3_
   have hB := hB.chgb e93 (Or.inr ⟨_, hb96, rfl⟩)
   have O1 := P1
   have O2 := (O1.take hi2).drop (l := lo2) (by first | (simp; done) | (simp at *; omega) | (simp; omega))
   obtain rfl := hr.trans H.symm
   exact ⟨rfl, O1, (by first | (simp only [List.length_set]; done) | (simp only [List.length_set, List.length_set]; done) | (simp; done) | (simp; omega) | omega), hB⟩
  refine brc H (fun hc300 H => ?_) (fun hc300 H => ?_)
  ·refine ⟨(fun _ => False), ?_⟩
   have hBz := hB
   have Z1 := O1
   have Z2 := O2
   have Z3 := O3
   refine ⟨_, ⟨(fun h_ => h_), (O3.at 1 rfl rfl)⟩, _, ⟨(fun h_ => h_), (O3.at 2 rfl rfl)⟩, ?_⟩
   obtain ⟨⟨h0_122, h1_123⟩, H⟩ := H
   obtain ⟨a120, ha121, hat119⟩ := Row.at O2.row h0_122 h1_123
   refine ⟨h0_122, h1_123, a120, ha121, _, ⟨(fun h_ => h_), (hat119 0 _ rfl)⟩, _, ⟨(fun h_ => h_), (O3.at 3 rfl rfl)⟩, ?_⟩
   obtain ⟨⟨h0_127, h1_128⟩, H⟩ := H
   obtain ⟨a125, ha126, hat124⟩ := Row.at O2.row h0_127 h1_128
   refine ⟨h0_127, h1_128, a125, ha126, _, ⟨(fun h_ => h_), (hat124 0 _ rfl)⟩, ?_⟩
   have hS98 := Chg.refl (fun _ => False) w21
   have O1 := O1.ext (Ext.drew _)
   have O2 := O2.ext (Ext.drew _)
   have O3 := O3.ext (Ext.drew _)
   have hB := hB.then (Ext.drew _)
   have hS98 := hS98.then (Ext.drew _)
   obtain ⟨r129, hr130, H⟩ := callO H
   refine (impl_SubWords.con hr130 ).mono ?_
   rintro _ w132 ⟨rfl, e133⟩
   have O1 := O1.ext e133
   have O2 := O2.ext e133
   have O3 := O3.ext e133
   have hB := hB.then e133
   have hS98 := hS98.then e133
   refine ⟨r129, rfl, sameBut_chg hS98, ?_⟩
   obtain ⟨⟨h0_137, h1_138⟩, H⟩ := H
   obtain ⟨a135, ha136, hat134⟩ := Row.at Z2.row h0_137 h1_138
   refine ⟨h0_137, h1_138, a135, ha136, ?_⟩
   refine Own.storeCut (hi := hi2) O1 ha136 h0_137 h1_138 0 [(.int .i64 r129)] r129 rfl (Nat.le_of_ble_eq_true rfl) rfl (fun w139 P1 e140 hb141 => ?_)
   obtain ⟨b142, hb143, hbe144⟩ := cut_blk ha136
   rw [← hbe144] at e140 hb141
   have O3_ := O3.chg e140 (fun h_ => (N1_3) _ hb143 h_.symm)
   have O3 := O3_
   have hB := hB.chgb e140 (Or.inr ⟨_, hb143, rfl⟩)
   have O1 := P1
   have O2 := (O1.take hi2).drop (l := lo2) (by first | (simp; done) | (simp at *; omega) | (simp; omega))
   obtain rfl := hr.trans H.symm
   exact ⟨rfl, O1, (by first | (simp only [List.length_set]; done) | (simp only [List.length_set, List.length_set]; done) | (simp; done) | (simp; omega) | omega), hB⟩
  refine brc H (fun hc299 H => ?_) (fun hc299 H => ?_)
  ·refine ⟨(fun _ => False), ?_⟩
   have hBz := hB
   have Z1 := O1
   have Z2 := O2
   have Z3 := O3
   refine ⟨_, ⟨(fun h_ => h_), (O3.at 1 rfl rfl)⟩, _, ⟨(fun h_ => h_), (O3.at 2 rfl rfl)⟩, ?_⟩
   obtain ⟨⟨h0_169, h1_170⟩, H⟩ := H
   obtain ⟨a167, ha168, hat166⟩ := Row.at O2.row h0_169 h1_170
   refine ⟨h0_169, h1_170, a167, ha168, _, ⟨(fun h_ => h_), (hat166 0 _ rfl)⟩, _, ⟨(fun h_ => h_), (O3.at 3 rfl rfl)⟩, ?_⟩
   obtain ⟨⟨h0_174, h1_175⟩, H⟩ := H
   obtain ⟨a172, ha173, hat171⟩ := Row.at O2.row h0_174 h1_175
   refine ⟨h0_174, h1_175, a172, ha173, _, ⟨(fun h_ => h_), (hat171 0 _ rfl)⟩, ?_⟩
   have hS145 := Chg.refl (fun _ => False) w21
   have O1 := O1.ext (Ext.drew _)
   have O2 := O2.ext (Ext.drew _)
   have O3 := O3.ext (Ext.drew _)
   have hB := hB.then (Ext.drew _)
   have hS145 := hS145.then (Ext.drew _)
   obtain ⟨r176, hr177, H⟩ := callO H
   refine (impl_MulWords.con hr177 ).mono ?_
   rintro _ w179 ⟨rfl, e180⟩
   have O1 := O1.ext e180
   have O2 := O2.ext e180
   have O3 := O3.ext e180
   have hB := hB.then e180
   have hS145 := hS145.then e180
   refine ⟨r176, rfl, sameBut_chg hS145, ?_⟩
   obtain ⟨⟨h0_184, h1_185⟩, H⟩ := H
   obtain ⟨a182, ha183, hat181⟩ := Row.at Z2.row h0_184 h1_185
   refine ⟨h0_184, h1_185, a182, ha183, ?_⟩
   refine Own.storeCut (hi := hi2) O1 ha183 h0_184 h1_185 0 [(.int .i64 r176)] r176 rfl (Nat.le_of_ble_eq_true rfl) rfl (fun w186 P1 e187 hb188 => ?_)
   obtain ⟨b189, hb190, hbe191⟩ := cut_blk ha183
   rw [← hbe191] at e187 hb188
   have O3_ := O3.chg e187 (fun h_ => (N1_3) _ hb190 h_.symm)
   have O3 := O3_
   have hB := hB.chgb e187 (Or.inr ⟨_, hb190, rfl⟩)
   have O1 := P1
   have O2 := (O1.take hi2).drop (l := lo2) (by first | (simp; done) | (simp at *; omega) | (simp; omega))
   obtain rfl := hr.trans H.symm
   exact ⟨rfl, O1, (by first | (simp only [List.length_set]; done) | (simp only [List.length_set, List.length_set]; done) | (simp; done) | (simp; omega) | omega), hB⟩
  refine brc H (fun hc298 H => ?_) (fun hc298 H => ?_)
  ·refine ⟨(fun _ => False), _, ⟨(fun h_ => h_), (O3.at 1 rfl rfl)⟩, _, ⟨(fun h_ => h_), (O3.at 2 rfl rfl)⟩, ?_⟩
   obtain ⟨⟨h0_196, h1_197⟩, H⟩ := H
   obtain ⟨a194, ha195, hat193⟩ := Row.at O2.row h0_196 h1_197
   refine ⟨h0_196, h1_197, a194, ha195, _, ⟨(fun h_ => h_), (hat193 0 _ rfl)⟩, _, ⟨(fun h_ => h_), (O3.at 3 rfl rfl)⟩, ?_⟩
   obtain ⟨⟨h0_201, h1_202⟩, H⟩ := H
   obtain ⟨a199, ha200, hat198⟩ := Row.at O2.row h0_201 h1_202
   refine ⟨h0_201, h1_202, a199, ha200, _, ⟨(fun h_ => h_), (hat198 0 _ rfl)⟩, ?_⟩
   obtain ⟨⟨h0_206, h1_207⟩, H⟩ := H
   obtain ⟨a204, ha205, hat203⟩ := Row.at O2.row h0_206 h1_207
   refine ⟨h0_206, h1_207, a204, ha205, ?_⟩
   have hS192 := Chg.refl (fun _ => False) w21
   have O1 := O1.ext (Ext.drew _)
   have O2 := O2.ext (Ext.drew _)
   have O3 := O3.ext (Ext.drew _)
   have hB := hB.then (Ext.drew _)
   have hS192 := hS192.then (Ext.drew _)
   refine Own.storeCut (hi := hi2) O1 ha205 h0_206 h1_207 0 [(.int .i64 (bitXor .i64 (rd (List.drop lo2 (List.take hi2 xs2)) s0.B) (rd (List.drop lo2 (List.take hi2 xs2)) s0.C)))] (bitXor .i64 (rd (List.drop lo2 (List.take hi2 xs2)) s0.B) (rd (List.drop lo2 (List.take hi2 xs2)) s0.C)) rfl (Nat.le_of_ble_eq_true rfl) rfl (fun w208 P1 e209 hb210 => ?_)
   obtain ⟨b211, hb212, hbe213⟩ := cut_blk ha205
   rw [← hbe213] at e209 hb210
   have O3_ := O3.chg e209 (fun h_ => (N1_3) _ hb212 h_.symm)
   have O3 := O3_
   have hB := hB.chgb e209 (Or.inr ⟨_, hb212, rfl⟩)
   have O1 := P1
   have O2 := (O1.take hi2).drop (l := lo2) (by first | (simp; done) | (simp at *; omega) | (simp; omega))
   obtain rfl := hr.trans H.symm
   exact ⟨rfl, O1, (by first | (simp only [List.length_set]; done) | (simp only [List.length_set, List.length_set]; done) | (simp; done) | (simp; omega) | omega), hB⟩
  refine brc H (fun hc297 H => ?_) (fun hc297 H => ?_)
  ·refine ⟨(fun _ => False), ?_⟩
   have hBz := hB
   have Z1 := O1
   have Z2 := O2
   have Z3 := O3
   refine ⟨_, ⟨(fun h_ => h_), (O3.at 1 rfl rfl)⟩, _, ⟨(fun h_ => h_), (O3.at 2 rfl rfl)⟩, ?_⟩
   obtain ⟨⟨h0_238, h1_239⟩, H⟩ := H
   obtain ⟨a236, ha237, hat235⟩ := Row.at O2.row h0_238 h1_239
   refine ⟨h0_238, h1_239, a236, ha237, _, ⟨(fun h_ => h_), (hat235 0 _ rfl)⟩, _, ⟨(fun h_ => h_), (O3.at 3 rfl rfl)⟩, ?_⟩
   obtain ⟨⟨h0_243, h1_244⟩, H⟩ := H
   obtain ⟨a241, ha242, hat240⟩ := Row.at O2.row h0_243 h1_244
   refine ⟨h0_243, h1_244, a241, ha242, _, ⟨(fun h_ => h_), (hat240 0 _ rfl)⟩, ?_⟩
   have hS214 := Chg.refl (fun _ => False) w21
   have O1 := O1.ext (Ext.drew _)
   have O2 := O2.ext (Ext.drew _)
   have O3 := O3.ext (Ext.drew _)
   have hB := hB.then (Ext.drew _)
   have hS214 := hS214.then (Ext.drew _)
   obtain ⟨r245, hr246, H⟩ := callO H
   refine (impl_LessWords.con hr246 ).mono ?_
   rintro _ w248 ⟨rfl, e249⟩
   have O1 := O1.ext e249
   have O2 := O2.ext e249
   have O3 := O3.ext e249
   have hB := hB.then e249
   have hS214 := hS214.then e249
   refine ⟨r245, rfl, sameBut_chg hS214, ?_⟩
   obtain ⟨⟨h0_253, h1_254⟩, H⟩ := H
   obtain ⟨a251, ha252, hat250⟩ := Row.at Z2.row h0_253 h1_254
   refine ⟨h0_253, h1_254, a251, ha252, ?_⟩
   refine Own.storeCut (hi := hi2) O1 ha252 h0_253 h1_254 0 [(.int .i64 r245)] r245 rfl (Nat.le_of_ble_eq_true rfl) rfl (fun w255 P1 e256 hb257 => ?_)
   obtain ⟨b258, hb259, hbe260⟩ := cut_blk ha252
   rw [← hbe260] at e256 hb257
   have O3_ := O3.chg e256 (fun h_ => (N1_3) _ hb259 h_.symm)
   have O3 := O3_
   have hB := hB.chgb e256 (Or.inr ⟨_, hb259, rfl⟩)
   have O1 := P1
   have O2 := (O1.take hi2).drop (l := lo2) (by first | (simp; done) | (simp at *; omega) | (simp; omega))
   obtain rfl := hr.trans H.symm
   exact ⟨rfl, O1, (by first | (simp only [List.length_set]; done) | (simp only [List.length_set, List.length_set]; done) | (simp; done) | (simp; omega) | omega), hB⟩
  refine brc H (fun hc296 H => ?_) (fun hc296 H => ?_)
  ·refine ⟨_, (O3.at 1 rfl rfl), ?_⟩
   obtain ⟨⟨h0_264, h1_265⟩, H⟩ := H
   obtain ⟨a262, ha263, hat261⟩ := Row.at O2.row h0_264 h1_265
   refine ⟨h0_264, h1_265, a262, ha263, ?_⟩
   refine Own.storeCut (hi := hi2) O1 ha263 h0_264 h1_265 0 [(.int .i64 x1)] x1 rfl (Nat.le_of_ble_eq_true rfl) rfl (fun w266 P1 e267 hb268 => ?_)
   obtain ⟨b269, hb270, hbe271⟩ := cut_blk ha263
   rw [← hbe271] at e267 hb268
   have O3_ := O3.chg e267 (fun h_ => (N1_3) _ hb270 h_.symm)
   have O3 := O3_
   have hB := hB.chgb e267 (Or.inr ⟨_, hb270, rfl⟩)
   have O1 := P1
   have O2 := (O1.take hi2).drop (l := lo2) (by first | (simp; done) | (simp at *; omega) | (simp; omega))
   obtain rfl := hr.trans H.symm
   exact ⟨rfl, O1, (by first | (simp only [List.length_set]; done) | (simp only [List.length_set, List.length_set]; done) | (simp; done) | (simp; omega) | omega), hB⟩
  refine brc H (fun hc295 H => ?_) (fun hc295 H => ?_)
  ·refine ⟨_, (O3.at 3 rfl rfl), ?_⟩
   obtain ⟨⟨h0_275, h1_276⟩, H⟩ := H
   obtain ⟨a273, ha274, hat272⟩ := Row.at O2.row h0_275 h1_276
   refine ⟨h0_275, h1_276, a273, ha274, _, (hat272 0 _ rfl), ?_⟩
   refine brc H (fun hc294 H => ?_) (fun hc294 H => ?_)
   ·refine ⟨(fun _ => False), _, ⟨(fun h_ => h_), (O3.at 1 rfl rfl)⟩, _, ⟨(fun h_ => h_), (O3.at 2 rfl rfl)⟩, ?_⟩
    obtain ⟨⟨h0_281, h1_282⟩, H⟩ := H
    obtain ⟨a279, ha280, hat278⟩ := Row.at O2.row h0_281 h1_282
    refine ⟨h0_281, h1_282, a279, ha280, _, ⟨(fun h_ => h_), (hat278 0 _ rfl)⟩, ?_⟩
    obtain ⟨⟨h0_286, h1_287⟩, H⟩ := H
    obtain ⟨a284, ha285, hat283⟩ := Row.at O2.row h0_286 h1_287
    refine ⟨h0_286, h1_287, a284, ha285, ?_⟩
    have hS277 := Chg.refl (fun _ => False) w21
    have O1 := O1.ext (Ext.drew _)
    have O2 := O2.ext (Ext.drew _)
    have O3 := O3.ext (Ext.drew _)
    have hB := hB.then (Ext.drew _)
    have hS277 := hS277.then (Ext.drew _)
    refine Own.storeCut (hi := hi2) O1 ha285 h0_286 h1_287 0 [(.int .i64 (rd (List.drop lo2 (List.take hi2 xs2)) s0.B))] (rd (List.drop lo2 (List.take hi2 xs2)) s0.B) rfl (Nat.le_of_ble_eq_true rfl) rfl (fun w288 P1 e289 hb290 => ?_)
    obtain ⟨b291, hb292, hbe293⟩ := cut_blk ha285
    rw [← hbe293] at e289 hb290
    have O3_ := O3.chg e289 (fun h_ => (N1_3) _ hb292 h_.symm)
    have O3 := O3_
    have hB := hB.chgb e289 (Or.inr ⟨_, hb292, rfl⟩)
    have O1 := P1
    have O2 := (O1.take hi2).drop (l := lo2) (by first | (simp; done) | (simp at *; omega) | (simp; omega))
    obtain rfl := hr.trans H.symm
    exact ⟨rfl, O1, (by first | (simp only [List.length_set]; done) | (simp only [List.length_set, List.length_set]; done) | (simp; done) | (simp; omega) | omega), hB⟩
   obtain rfl := hr.trans H.symm
   exact ⟨rfl, O1, rfl, hB⟩
  obtain rfl := hr.trans H.symm
  exact ⟨rfl, O1, rfl, hB⟩
def impl_Warp_advance.vc (p0 : Addr) (A1 : Option Addr) (n1 : Nat) (c1 : Nat) (w : World) (K : Value → World → Prop) : Prop :=
  ∃ (A21 : Option Addr) (n22 : Nat) (c23 : Nat), w.cell? ((p0.add 1).add 0) = some (.slice A21 n22 c23) ∧ ∃ (A24 : Option Addr) (n25 : Nat) (c26 : Nat), w.cell? ((p0.add 1).add 0) = some (.slice A24 n25 c26) ∧ ((0 : Int) ≤ (IntKind.wrap .i64 (((n25 : Nat) : Int) - 1)) ∧ (IntKind.wrap .i64 (((n25 : Nat) : Int) - 1)) < ((n22 : Nat) : Int) ∧ ∃ a27 : Addr, A21 = some a27 ∧ ∃ (n28 : Int), w.drew.cell? (((a27.add (((IntKind.wrap .i64 (((n25 : Nat) : Int) - 1)).toNat) * 3)).add 0).add 0) = some (.int .i64 n28) ∧ ((0 : Int) ≤ n28 ∧ n28 < ((n1 : Nat) : Int) ∧ ∃ a29 : Addr, A1 = some a29 ∧ ∃ (n30 : Int), w.drew.cell? ((a29.add ((n28.toNat) * 4)).add 0) = some (.int .i64 n30) ∧ ∃ (n31 : Int), w.drew.cell? ((a29.add ((n28.toNat) * 4)).add 1) = some (.int .i64 n31) ∧ ∃ (n32 : Int), w.drew.cell? ((a29.add ((n28.toNat) * 4)).add 2) = some (.int .i64 n32) ∧ ∃ (n33 : Int), w.drew.cell? ((a29.add ((n28.toNat) * 4)).add 3) = some (.int .i64 n33) ∧ newK w.drew (.cells #[(.int .i64 0), (.int .i64 0), (.int .i64 0), (.int .i64 0)] 91) fun g34 w35 => stCells (⟨g34, 0, none⟩ : Addr) [(.int .i64 n30), (.int .i64 n31), (.int .i64 n32), (.int .i64 n33)] 0 w35 fun w36 => ∃ (n37 : Int), w36.cell? (((a27.add (((IntKind.wrap .i64 (((n25 : Nat) : Int) - 1)).toNat) * 3)).add 2).add 0) = some (.int .i64 n37) ∧ Cll Tryz.prog 154 #[(.int .i64 n37)] w36 fun v38 w39 => (∃ (A40 : Option Addr) (n41 : Nat) (c42 : Nat), v38 = (.slice A40 n41 c42) ∧ LoopT (σ := Int × Unit) (fun z43 w44 next45 => bcase (decide (z43.1 < ((n41 : Nat) : Int))) (((0 : Int) ≤ z43.1 ∧ z43.1 < ((n41 : Nat) : Int) ∧ ∃ a46 : Addr, A40 = some a46 ∧ ∃ (n47 : Int), w44.cell? ((a46.add ((z43.1.toNat) * 1)).add 0) = some (.int .i64 n47) ∧ (∃ M48 : Nat → Prop, ∃ (n49 : Int), (¬ M48 ((⟨g34, 0, none⟩ : Addr)).block ∧ w44.cell? ((⟨g34, 0, none⟩ : Addr).add 0) = some (.int .i64 n49)) ∧ ∃ (n50 : Int), (¬ M48 ((⟨g34, 0, none⟩ : Addr)).block ∧ w44.cell? ((⟨g34, 0, none⟩ : Addr).add 1) = some (.int .i64 n50)) ∧ ∃ (n51 : Int), (¬ M48 ((⟨g34, 0, none⟩ : Addr)).block ∧ w44.cell? ((⟨g34, 0, none⟩ : Addr).add 2) = some (.int .i64 n51)) ∧ ∃ (n52 : Int), (¬ M48 ((⟨g34, 0, none⟩ : Addr)).block ∧ w44.cell? ((⟨g34, 0, none⟩ : Addr).add 3) = some (.int .i64 n52)) ∧ ∃ (n53 : Int), (¬ M48 ((p0.add 0)).block ∧ w44.cell? ((p0.add 0).add 0) = some (.int .i64 n53)) ∧ ∃ (n54 : Int), (¬ M48 (p0).block ∧ w44.cell? (p0.add 0) = some (.int .i64 n54)) ∧ ∃ (A55 : Option Addr) (n56 : Nat) (c57 : Nat), (¬ M48 (p0).block ∧ w44.cell? (p0.add 1) = some (.slice A55 n56 c57)) ∧ ∃ (A58 : Option Addr) (n59 : Nat) (c60 : Nat), (¬ M48 (p0).block ∧ w44.cell? (p0.add 2) = some (.slice A58 n59 c60)) ∧ Cll Tryz.prog 155 #[(.agg #[(.int .i64 n54), (.slice A55 n56 c57), (.slice A58 n59 c60)]), (.int .i64 n47)] w44.drew fun v61 w62 => (∃ (A63 : Option Addr) (n64 : Nat) (c65 : Nat), v61 = (.slice A63 n64 c65) ∧ SameBut M48 w44 w62 ∧ Cll Tryz.prog 192 #[(.agg #[(.int .i64 n49), (.int .i64 n50), (.int .i64 n51), (.int .i64 n52)]), (.int .i64 (IntKind.wrap .i64 ((IntKind.wrap .i64 (n53 * 8)) + n47))), (.slice A63 n64 c65)] w62 fun v66 w67 => (v66 = (.tuple #[]) ∧ SameBut M48 w44 w67 ∧ next45 ((IntKind.wrap .i64 (z43.1 + 1)), ()) w67))))) (∃ (n68 : Int), w44.cell? (((⟨g34, 0, none⟩ : Addr).add 0).add 0) = some (.int .i64 n68) ∧ bcase (n68 == 12) (stCells ((a27.add (((IntKind.wrap .i64 (((n25 : Nat) : Int) - 1)).toNat) * 3)).add 0) [(.int .i64 ((n1 : Nat) : Int))] 0 w44 fun w69 => K (.tuple #[]) w69) (JoinT (σ := Bool × Unit) (fun J70 => (∃ M71 : Nat → Prop, ∃ (n72 : Int), (¬ M71 (((⟨g34, 0, none⟩ : Addr).add 0)).block ∧ w44.cell? (((⟨g34, 0, none⟩ : Addr).add 0).add 0) = some (.int .i64 n72)) ∧ bcase (n72 == 11) (J70 (true, ()) w44.drew) (∃ (n73 : Int), (¬ M71 (((⟨g34, 0, none⟩ : Addr).add 0)).block ∧ w44.cell? (((⟨g34, 0, none⟩ : Addr).add 0).add 0) = some (.int .i64 n73)) ∧ bcase (n73 == 10) (∃ (n74 : Int), (¬ M71 (p0).block ∧ w44.cell? (p0.add 0) = some (.int .i64 n74)) ∧ ∃ (A75 : Option Addr) (n76 : Nat) (c77 : Nat), (¬ M71 (p0).block ∧ w44.cell? (p0.add 1) = some (.slice A75 n76 c77)) ∧ ∃ (A78 : Option Addr) (n79 : Nat) (c80 : Nat), (¬ M71 (p0).block ∧ w44.cell? (p0.add 2) = some (.slice A78 n79 c80)) ∧ ∃ (n81 : Int), (¬ M71 (((⟨g34, 0, none⟩ : Addr).add 1)).block ∧ w44.cell? (((⟨g34, 0, none⟩ : Addr).add 1).add 0) = some (.int .i64 n81)) ∧ ∃ (n82 : Int), (¬ M71 (((a27.add (((IntKind.wrap .i64 (((n25 : Nat) : Int) - 1)).toNat) * 3)).add 2)).block ∧ w44.cell? (((a27.add (((IntKind.wrap .i64 (((n25 : Nat) : Int) - 1)).toNat) * 3)).add 2).add 0) = some (.int .i64 n82)) ∧ Cll Tryz.prog 123 #[(.agg #[(.int .i64 n74), (.slice A75 n76 c77), (.slice A78 n79 c80)]), (.int .i64 n81)] w44.drew fun v83 w84 => (∃ (n85 : Int), v83 = (.int .i64 n85) ∧ SameBut M71 w44 w84 ∧ J70 ((n85 == n82), ()) w84)) (J70 (false, ()) w44.drew)))) fun z86 w87 => bcase z86.1 (∃ (n88 : Int), w87.cell? (((⟨g34, 0, none⟩ : Addr).add 2).add 0) = some (.int .i64 n88) ∧ stCells ((a27.add (((IntKind.wrap .i64 (((n25 : Nat) : Int) - 1)).toNat) * 3)).add 0) [(.int .i64 n88)] 0 w87 fun w89 => K (.tuple #[]) w89) (∃ (n90 : Int), w87.cell? (((a27.add (((IntKind.wrap .i64 (((n25 : Nat) : Int) - 1)).toNat) * 3)).add 0).add 0) = some (.int .i64 n90) ∧ stCells ((a27.add (((IntKind.wrap .i64 (((n25 : Nat) : Int) - 1)).toNat) * 3)).add 0) [(.int .i64 (IntKind.wrap .i64 (n90 + 1)))] 0 w87 fun w91 => K (.tuple #[]) w91)))) (0, ()) w39)))

def impl_Warp_advance.ann : Ann := (.seq .l (.seq .l (.seq (.seq .l (.one (.loop [(32, .int .i64)] (.seq .l (.seq (.two .l .l) (.seq (.one (.seq .l .l)) .l)))))) (.one (.seq .l (.two .l (.cut [(67, .bool)] .l (.two .l .l))))))))

theorem impl_Warp_advance.con {s0 : D.Warp} {g1_ : Nat} {A0_1 : Option Addr} {c0_1 : Nat} {A0_2 : Option Addr} {c0_2 : Nat} {o1_ : Nat} {R1_ : Array Value} {xs1 : List D.Ins} {A1 : Option Addr} {c1 : Nat} {r : D.Warp} {w : World} (hp : M.impl_Warp_advance_pre s0 xs1) (hr : r = M.impl_Warp_advance s0 xs1) (O1 : Plc w g1_ o1_ 29 R1_ #[(.int .i64 s0.Number), (.slice A0_1 s0.Frames.length c0_1), (.slice A0_2 s0.Regs.length c0_2)]) (O2 : Own el105 w 0 A0_1 c0_1 s0.Frames) (O3 : Own el3 w 0 A0_2 c0_2 s0.Regs) (R1 : Row el91 w A1 xs1) (hc1 : xs1.length ≤ c1) (D1 : xs1 ≠ [] → ∀ g, InB A1 g → ¬ (fun k_ => InB A0_1 k_ ∨ InB A0_2 k_ ∨ k_ = g1_) g) :
    Cll Tryz.prog 162 #[(.pointer (some (⟨g1_, o1_, none⟩ : Addr))), (.slice A1 xs1.length c1)] w (fun v_ w_ => ∃ (A0_ : Option Addr) (c0_ : Nat) (A1_ : Option Addr) (c1_ : Nat), v_ = (.tuple #[]) ∧ Plc w_ g1_ o1_ 29 R1_ #[(.int .i64 r.Number), (.slice A0_ r.Frames.length c0_), (.slice A1_ r.Regs.length c1_)] ∧ Own el105 w_ 0 A0_ c0_ r.Frames ∧ Mov w A0_1 A0_ ∧ Own el3 w_ 0 A1_ c1_ r.Regs ∧ Mov w A0_2 A1_ ∧ Chg (fun k_ => InB A0_1 k_ ∨ InB A0_2 k_ ∨ k_ = g1_) w w_) := by
  have H := wp.impl_Warp_advance.math s0 xs1 hp
  have hB := Chg.refl (fun k_ => InB A0_1 k_ ∨ InB A0_2 k_ ∨ k_ = g1_) w
  refine beginF mixed (fn := Tryz.f162) (by kernel_rfl) (by kernel_rfl) (an := impl_Warp_advance.ann) (V := impl_Warp_advance.vc (⟨g1_, o1_, none⟩ : Addr) A1 xs1.length c1) (by kernel_rfl) ?_
  unfold impl_Warp_advance.vc
  unfold wp.impl_Warp_advance at H
  refine ⟨_, _, _, (O1.at 1 rfl rfl), _, _, _, (O1.at 1 rfl rfl), ?_⟩
  obtain ⟨⟨h0_25, h1_26⟩, H⟩ := H
  obtain ⟨a23, ha24, hat22⟩ := Row.at O2.row h0_25 h1_26
  refine ⟨h0_25, h1_26, a23, ha24, ?_⟩
  have O1 := O1.ext (Ext.drew _)
  have O2 := O2.ext (Ext.drew _)
  have O3 := O3.ext (Ext.drew _)
  have hB := hB.then (Ext.drew _)
  have hat27 := Row.re O2.row ha24 h0_25 (by first | exact h1_26 | omega | (simp at h1_26 ⊢; omega))
  refine ⟨_, (hat27 0 _ rfl), ?_⟩
  obtain ⟨⟨h0_31, h1_32⟩, H⟩ := H
  obtain ⟨a29, ha30, hat28⟩ := Row.at (R1.chgS hB D1) h0_31 h1_32
  refine ⟨h0_31, h1_32, a29, ha30, _, (hat28 0 _ rfl), _, (hat28 1 _ rfl), _, (hat28 2 _ rfl), _, (hat28 3 _ rfl), ?_⟩
  refine newBlk (fun g5_ w33 L5 P5 e34 => ?_)
  have N1_5 := O1.ne L5
  have N2_5 := O2.apart_new L5
  have N3_5 := O3.apart_new L5
  have O1 := O1.ext e34
  have O2 := O2.ext e34
  have O3 := O3.ext e34
  have O5 := P5
  have L5 := Nat.le_trans hB.size L5
  have hB := hB.then e34
  refine stBlk O5 (o := 0) (cs' := #[(.int .i64 ((rd xs1 ((rd s0.Frames (IntKind.wrap .i64 (((s0.Frames.length : Nat) : Int) - 1))).Pc)).Op)), (.int .i64 ((rd xs1 ((rd s0.Frames (IntKind.wrap .i64 (((s0.Frames.length : Nat) : Int) - 1))).Pc)).A)), (.int .i64 ((rd xs1 ((rd s0.Frames (IntKind.wrap .i64 (((s0.Frames.length : Nat) : Int) - 1))).Pc)).B)), (.int .i64 ((rd xs1 ((rd s0.Frames (IntKind.wrap .i64 (((s0.Frames.length : Nat) : Int) - 1))).Pc)).C))]) rfl rfl (Nat.le_of_ble_eq_true rfl) rfl (fun w35 P5 e36 => ?_)
  have O1_ := O1.chg e36 N1_5
  have O2_ := O2.chg e36 N2_5
  have O3_ := O3.chg e36 N3_5
  have O1 := O1_
  have O2 := O2_
  have O3 := O3_
  have hB := hB.chgb e36 (Or.inl L5)
  have O5 := P5
  have hat37 := Row.re O2.row ha24 h0_25 (by first | exact h1_26 | omega | (simp at h1_26 ⊢; omega))
  refine ⟨_, (hat37 2 _ rfl), ?_⟩
  obtain ⟨r38, hr39, H⟩ := callO H
  refine (impl_LanesOf.con hr39 ).mono ?_
  rintro _ w41 ⟨A43, c44, rfl, P6, e42⟩
  have N6_1 := P6.apart_old O1.lt
  have N2_6 := Own.apart2_new O2 P6 (Nat.le_refl _)
  have N3_6 := Own.apart2_new O3 P6 (Nat.le_refl _)
  have N6_5 := P6.apart_old O5.lt
  have O1 := O1.ext e42
  have O2 := O2.ext e42
  have O3 := O3.ext e42
  have O5 := O5.ext e42
  have O6 := P6.mono hB.size
  have hB := hB.then e42
  refine ⟨A43, r38.length, c44, rfl, ?_⟩
  obtain ⟨J79, ⟨m140, hJ139⟩, hS80⟩ := H
  refine ⟨fun m_ z_ w_ => ∃ (i75 : Int) (xs76 : List Int), z_ = (i75, ()) ∧ J79 m_ (i75, xs76, ()) ∧ Chg (fun k_ => InB A0_1 k_ ∨ InB A0_2 k_ ∨ k_ = g1_) w w_ ∧ Own el3 w_ 0 A0_2 c0_2 xs76 ∧ s0.Regs.length = xs76.length ∧ Plc w_ g1_ o1_ 29 R1_ #[(.int .i64 s0.Number), (.slice A0_1 s0.Frames.length c0_1), (.slice A0_2 s0.Regs.length c0_2)] ∧ Own el105 w_ 0 A0_1 c0_1 s0.Frames ∧ Blk w_ g5_ 91 #[(.int .i64 ((rd xs1 ((rd s0.Frames (IntKind.wrap .i64 (((s0.Frames.length : Nat) : Int) - 1))).Pc)).Op)), (.int .i64 ((rd xs1 ((rd s0.Frames (IntKind.wrap .i64 (((s0.Frames.length : Nat) : Int) - 1))).Pc)).A)), (.int .i64 ((rd xs1 ((rd s0.Frames (IntKind.wrap .i64 (((s0.Frames.length : Nat) : Int) - 1))).Pc)).B)), (.int .i64 ((rd xs1 ((rd s0.Frames (IntKind.wrap .i64 (((s0.Frames.length : Nat) : Int) - 1))).Pc)).C))] ∧ Own el3 w_ w.heap.size A43 c44 r38, ⟨m140, 0, s0.Regs, rfl, hJ139, hB, O3, (by first | rfl | assumption | omega | (simp; done) | (simp; omega) | (simp; assumption)), O1, O2, O5, O6⟩, ?_⟩
  rintro m78 _ w82 ⟨i75, xs76, rfl, hJ141, hB, O3, hn77, O1, O2, O5, O6⟩
  have H := hS80 m78 _ hJ141
  clear hS80 hJ141
  try dsimp only at H ⊢
  refine brc H (fun hc137 H => ?_) (fun hc137 H => ?_)
  ·obtain ⟨⟨h0_86, h1_87⟩, H⟩ := H
   obtain ⟨a84, ha85, hat83⟩ := Row.at O6.row h0_86 h1_87
   refine ⟨h0_86, h1_87, a84, ha85, _, (hat83 0 _ rfl), (InB A0_2), _, ⟨(notM1 (N3_5).inb (by first | rfl | (simp only [blk_add]))), (O5.at 0 rfl rfl)⟩, _, ⟨(notM1 (N3_5).inb (by first | rfl | (simp only [blk_add]))), (O5.at 1 rfl rfl)⟩, _, ⟨(notM1 (N3_5).inb (by first | rfl | (simp only [blk_add]))), (O5.at 2 rfl rfl)⟩, _, ⟨(notM1 (N3_5).inb (by first | rfl | (simp only [blk_add]))), (O5.at 3 rfl rfl)⟩, _, ⟨(notM1 ((O3.apart_type O1.b (by decide))).inb (by first | rfl | (simp only [blk_add]))), (O1.at 0 rfl rfl)⟩, _, ⟨(notM1 ((O3.apart_type O1.b (by decide))).inb (by first | rfl | (simp only [blk_add]))), (O1.at 0 rfl rfl)⟩, _, _, _, ⟨(notM1 ((O3.apart_type O1.b (by decide))).inb (by first | rfl | (simp only [blk_add]))), (O1.at 1 rfl rfl)⟩, _, _, _, ⟨(notM1 ((O3.apart_type O1.b (by decide))).inb (by first | rfl | (simp only [blk_add]))), (O1.at 2 rfl rfl)⟩, ?_⟩
   have hS88 := Chg.refl (InB A0_2) w82
   have O1 := O1.ext (Ext.drew _)
   have O2 := O2.ext (Ext.drew _)
   have O3 := O3.ext (Ext.drew _)
   have O5 := O5.ext (Ext.drew _)
   have O6 := O6.ext (Ext.drew _)
   have hB := hB.then (Ext.drew _)
   have hS88 := hS88.then (Ext.drew _)
   obtain ⟨hp98, H⟩ := H
   refine (cllArgs (by first | (simp only [List.length_set, ← hn77]; done) | (simp; done)) (impl_Warp_lane.con hp98 O2.row O2.le O3.row O3.le)).mono ?_
   rintro _ w99 ⟨rfl, e100⟩
   have O1 := O1.ext e100
   have O2 := O2.ext e100
   have O3 := O3.ext e100
   have O5 := O5.ext e100
   have O6 := O6.ext e100
   have hB := hB.then e100
   have hS88 := hS88.then e100
   have hv10_ : ((IntKind.wrap .i64 ((rd r38 i75) * 4)).toNat) ≤ (List.take ((IntKind.wrap .i64 ((IntKind.wrap .i64 ((rd r38 i75) + 1)) * 4)).toNat) xs76).length := impl_Warp_lane.cut hp98
   have O10 := (O3.take ((IntKind.wrap .i64 ((IntKind.wrap .i64 ((rd r38 i75) + 1)) * 4)).toNat)).drop (l := ((IntKind.wrap .i64 ((rd r38 i75) * 4)).toNat)) hv10_
   refine ⟨(cutA c0_2 ((IntKind.wrap .i64 ((rd r38 i75) * 4)).toNat) A0_2 1), (List.drop ((IntKind.wrap .i64 ((rd r38 i75) * 4)).toNat) (List.take ((IntKind.wrap .i64 ((IntKind.wrap .i64 ((rd r38 i75) + 1)) * 4)).toNat) xs76)).length, (c0_2 - ((IntKind.wrap .i64 ((rd r38 i75) * 4)).toNat)), rfl, sameBut_chg hS88, ?_⟩
   obtain ⟨hp103, H⟩ := H
   obtain ⟨r101, hr102, H⟩ := callO H
   refine (impl_apply_v.con hp103 hr102 (O3.mono (Nat.zero_le _)) hv10_).mono ?_
   rintro _ w104 ⟨rfl, Q3, hl106, e105⟩
   have O1 := O1.chgS e105 ((O3.apart_type O1.b (by decide))).inb
   have O2 := O2.chgS e105 ((Own.apart2_type O2 O3 (by decide))).inb
   have O5 := O5.chgS e105 (N3_5).inb
   have O6 := O6.chgS e105 ((N3_6).symm).inb
   have hS88 := hS88.chg e105 (fun g => (fun h_ => (Or.inr h_)))
   have hB := hB.chg e105 (fun g h_ => (Or.inr (Or.inr (Or.inl h_))))
   have O3 := Q3
   refine ⟨rfl, sameBut_chg hS88, ?_⟩
   obtain ⟨m107, hm108, hJ109⟩ := H
   exact ⟨m107, hm108, (IntKind.wrap .i64 (i75 + 1)), r101, rfl, hJ109, hB, O3, (by first | rfl | assumption | omega | (simp; done) | (simp; omega) | (simp; assumption)), O1, O2, O5, O6⟩
  refine ⟨_, (O5.at 0 rfl rfl), ?_⟩
  refine brc H (fun hc136 H => ?_) (fun hc136 H => ?_)
  ·refine Own.storeAt O2 ha24 h0_25 h1_26 0 [(.int .i64 ((xs1.length : Nat) : Int))] (⟨((xs1.length : Nat) : Int), (rd s0.Frames (IntKind.wrap .i64 (((s0.Frames.length : Nat) : Int) - 1))).Stop, (rd s0.Frames (IntKind.wrap .i64 (((s0.Frames.length : Nat) : Int) - 1))).Mask⟩ : D.Frame) rfl (Nat.le_of_ble_eq_true rfl) rfl (fun w110 P2 e111 hb112 => ?_)
   have O1_ := O1.chg e111 (fun h_ => ((O2.apart_type O1.b (by decide))) _ ha24 h_.symm)
   have O3_ := O3.chg e111 (((Own.apart2_type O3 O2 (by decide))).left ha24)
   have O5_ := O5.chg e111 (fun h_ => (N2_5) _ ha24 h_.symm)
   have O1 := O1_
   have O3 := O3_
   have O5 := O5_
   have hB := hB.chgb e111 (Or.inr (Or.inl ⟨_, ha24, rfl⟩))
   have O2 := P2
   obtain rfl := hr.trans H.symm
   exact ⟨A0_1, c0_1, A0_2, c0_2, rfl, (by first | exact O1 | (simp only [List.length_set, ← hn77]; exact O1)), (O2.mono (Nat.zero_le _)), (Mov.same _ _), (O3.mono (Nat.zero_le _)), (Mov.same _ _), hB⟩
  obtain ⟨K135, hKK135, H⟩ := joinP_out H
  refine ⟨fun z_ w_ => ∃ (b113 : Bool), z_ = (b113, ()) ∧ K135 (b113, ()) ∧ Chg (fun k_ => InB A0_1 k_ ∨ InB A0_2 k_ ∨ k_ = g1_) w w_ ∧ Plc w_ g1_ o1_ 29 R1_ #[(.int .i64 s0.Number), (.slice A0_1 s0.Frames.length c0_1), (.slice A0_2 s0.Regs.length c0_2)] ∧ Own el105 w_ 0 A0_1 c0_1 s0.Frames ∧ Own el3 w_ 0 A0_2 c0_2 xs76 ∧ Blk w_ g5_ 91 #[(.int .i64 ((rd xs1 ((rd s0.Frames (IntKind.wrap .i64 (((s0.Frames.length : Nat) : Int) - 1))).Pc)).Op)), (.int .i64 ((rd xs1 ((rd s0.Frames (IntKind.wrap .i64 (((s0.Frames.length : Nat) : Int) - 1))).Pc)).A)), (.int .i64 ((rd xs1 ((rd s0.Frames (IntKind.wrap .i64 (((s0.Frames.length : Nat) : Int) - 1))).Pc)).B)), (.int .i64 ((rd xs1 ((rd s0.Frames (IntKind.wrap .i64 (((s0.Frames.length : Nat) : Int) - 1))).Pc)).C))], ?_, ?_⟩
  ·refine ⟨(fun _ => False), _, ⟨(fun h_ => h_), (O5.at 0 rfl rfl)⟩, ?_⟩
   refine brc H (fun hc125 H => ?_) (fun hc125 H => ?_)
   ·have O1 := O1.ext (Ext.drew _)
    have O2 := O2.ext (Ext.drew _)
    have O3 := O3.ext (Ext.drew _)
    have O5 := O5.ext (Ext.drew _)
    have hB := hB.then (Ext.drew _)
    exact ⟨true, rfl, H, hB, O1, O2, O3, O5⟩
   refine ⟨_, ⟨(fun h_ => h_), (O5.at 0 rfl rfl)⟩, ?_⟩
   refine brc H (fun hc124 H => ?_) (fun hc124 H => ?_)
   ·refine ⟨_, ⟨(fun h_ => h_), (O1.at 0 rfl rfl)⟩, _, _, _, ⟨(fun h_ => h_), (O1.at 1 rfl rfl)⟩, _, _, _, ⟨(fun h_ => h_), (O1.at 2 rfl rfl)⟩, _, ⟨(fun h_ => h_), (O5.at 1 rfl rfl)⟩, ?_⟩
    have hat118 := Row.re O2.row ha24 h0_25 (by first | exact h1_26 | omega | (simp at h1_26 ⊢; omega))
    refine ⟨_, ⟨(fun h_ => h_), (hat118 2 _ rfl)⟩, ?_⟩
    have hS117 := Chg.refl (fun _ => False) w82
    have O1 := O1.ext (Ext.drew _)
    have O2 := O2.ext (Ext.drew _)
    have O3 := O3.ext (Ext.drew _)
    have O5 := O5.ext (Ext.drew _)
    have hB := hB.then (Ext.drew _)
    have hS117 := hS117.then (Ext.drew _)
    obtain ⟨hp121, H⟩ := H
    obtain ⟨r119, hr120, H⟩ := callO H
    refine (cllArgs (by first | (simp only [List.length_set, ← hn77]; done) | (simp; done)) (impl_Warp_zeroMask.con hp121 hr120 O2.row O2.le O3.row O3.le)).mono ?_
    rintro _ w122 ⟨rfl, e123⟩
    have O1 := O1.ext e123
    have O2 := O2.ext e123
    have O3 := O3.ext e123
    have O5 := O5.ext e123
    have hB := hB.then e123
    have hS117 := hS117.then e123
    refine ⟨r119, rfl, sameBut_chg hS117, ?_⟩
    exact ⟨(r119 == (rd s0.Frames (IntKind.wrap .i64 (((s0.Frames.length : Nat) : Int) - 1))).Mask), rfl, H, hB, O1, O2, O3, O5⟩
   have O1 := O1.ext (Ext.drew _)
   have O2 := O2.ext (Ext.drew _)
   have O3 := O3.ext (Ext.drew _)
   have O5 := O5.ext (Ext.drew _)
   have hB := hB.then (Ext.drew _)
   exact ⟨false, rfl, H, hB, O1, O2, O3, O5⟩
  rintro _ w115 ⟨b113, rfl, H, hB, O1, O2, O3, O5⟩
  have H := hKK135 _ H
  try dsimp only at H ⊢
  refine brc H (fun hc133 H => ?_) (fun hc133 H => ?_)
  ·refine ⟨_, (O5.at 2 rfl rfl), ?_⟩
   refine Own.storeAt O2 ha24 h0_25 h1_26 0 [(.int .i64 ((rd xs1 ((rd s0.Frames (IntKind.wrap .i64 (((s0.Frames.length : Nat) : Int) - 1))).Pc)).B))] (⟨(rd xs1 ((rd s0.Frames (IntKind.wrap .i64 (((s0.Frames.length : Nat) : Int) - 1))).Pc)).B, (rd s0.Frames (IntKind.wrap .i64 (((s0.Frames.length : Nat) : Int) - 1))).Stop, (rd s0.Frames (IntKind.wrap .i64 (((s0.Frames.length : Nat) : Int) - 1))).Mask⟩ : D.Frame) rfl (Nat.le_of_ble_eq_true rfl) rfl (fun w126 P2 e127 hb128 => ?_)
   have O1_ := O1.chg e127 (fun h_ => ((O2.apart_type O1.b (by decide))) _ ha24 h_.symm)
   have O3_ := O3.chg e127 (((Own.apart2_type O3 O2 (by decide))).left ha24)
   have O5_ := O5.chg e127 (fun h_ => (N2_5) _ ha24 h_.symm)
   have O1 := O1_
   have O3 := O3_
   have O5 := O5_
   have hB := hB.chgb e127 (Or.inr (Or.inl ⟨_, ha24, rfl⟩))
   have O2 := P2
   obtain rfl := hr.trans H.symm
   exact ⟨A0_1, c0_1, A0_2, c0_2, rfl, (by first | exact O1 | (simp only [List.length_set, ← hn77]; exact O1)), (O2.mono (Nat.zero_le _)), (Mov.same _ _), (O3.mono (Nat.zero_le _)), (Mov.same _ _), hB⟩
  have hat129 := Row.re O2.row ha24 h0_25 (by first | exact h1_26 | omega | (simp at h1_26 ⊢; omega))
  refine ⟨_, (hat129 0 _ rfl), ?_⟩
  refine Own.storeAt O2 ha24 h0_25 h1_26 0 [(.int .i64 (IntKind.wrap .i64 ((rd s0.Frames (IntKind.wrap .i64 (((s0.Frames.length : Nat) : Int) - 1))).Pc + 1)))] (⟨(IntKind.wrap .i64 ((rd s0.Frames (IntKind.wrap .i64 (((s0.Frames.length : Nat) : Int) - 1))).Pc + 1)), (rd s0.Frames (IntKind.wrap .i64 (((s0.Frames.length : Nat) : Int) - 1))).Stop, (rd s0.Frames (IntKind.wrap .i64 (((s0.Frames.length : Nat) : Int) - 1))).Mask⟩ : D.Frame) rfl (Nat.le_of_ble_eq_true rfl) rfl (fun w130 P2 e131 hb132 => ?_)
  have O1_ := O1.chg e131 (fun h_ => ((O2.apart_type O1.b (by decide))) _ ha24 h_.symm)
  have O3_ := O3.chg e131 (((Own.apart2_type O3 O2 (by decide))).left ha24)
  have O5_ := O5.chg e131 (fun h_ => (N2_5) _ ha24 h_.symm)
  have O1 := O1_
  have O3 := O3_
  have O5 := O5_
  have hB := hB.chgb e131 (Or.inr (Or.inl ⟨_, ha24, rfl⟩))
  have O2 := P2
  obtain rfl := hr.trans H.symm
  exact ⟨A0_1, c0_1, A0_2, c0_2, rfl, (by first | exact O1 | (simp only [List.length_set, ← hn77]; exact O1)), (O2.mono (Nat.zero_le _)), (Mov.same _ _), (O3.mono (Nat.zero_le _)), (Mov.same _ _), hB⟩
def impl_Warp_drop.vc (p0 : Addr) (x1 : Int) (w : World) (K : Value → World → Prop) : Prop :=
  LoopT (σ := Unit) (fun z21 w22 next23 => ∃ (A24 : Option Addr) (n25 : Nat) (c26 : Nat), w22.cell? ((p0.add 1).add 0) = some (.slice A24 n25 c26) ∧ bcase (decide (((n25 : Nat) : Int) > 0)) ((∃ M27 : Nat → Prop, ∃ (A28 : Option Addr) (n29 : Nat) (c30 : Nat), (¬ M27 ((p0.add 1)).block ∧ w22.cell? ((p0.add 1).add 0) = some (.slice A28 n29 c30)) ∧ ∃ (A31 : Option Addr) (n32 : Nat) (c33 : Nat), (¬ M27 ((p0.add 1)).block ∧ w22.cell? ((p0.add 1).add 0) = some (.slice A31 n32 c33)) ∧ ((0 : Int) ≤ (IntKind.wrap .i64 (((n32 : Nat) : Int) - 1)) ∧ (IntKind.wrap .i64 (((n32 : Nat) : Int) - 1)) < ((n29 : Nat) : Int) ∧ ∃ a34 : Addr, A28 = some a34 ∧ ∃ (n35 : Int), (¬ M27 ((a34.add (((IntKind.wrap .i64 (((n32 : Nat) : Int) - 1)).toNat) * 3))).block ∧ w22.cell? ((a34.add (((IntKind.wrap .i64 (((n32 : Nat) : Int) - 1)).toNat) * 3)).add 0) = some (.int .i64 n35)) ∧ ∃ (n36 : Int), (¬ M27 ((a34.add (((IntKind.wrap .i64 (((n32 : Nat) : Int) - 1)).toNat) * 3))).block ∧ w22.cell? ((a34.add (((IntKind.wrap .i64 (((n32 : Nat) : Int) - 1)).toNat) * 3)).add 1) = some (.int .i64 n36)) ∧ ∃ (n37 : Int), (¬ M27 ((a34.add (((IntKind.wrap .i64 (((n32 : Nat) : Int) - 1)).toNat) * 3))).block ∧ w22.cell? ((a34.add (((IntKind.wrap .i64 (((n32 : Nat) : Int) - 1)).toNat) * 3)).add 2) = some (.int .i64 n37)) ∧ newK w22.drew (.cells #[(.int .i64 0), (.int .i64 0), (.int .i64 0)] 105) fun g38 w39 => SameBut M27 w22 w39 ∧ stCells (⟨g38, 0, none⟩ : Addr) [(.int .i64 n35), (.int .i64 n36), (.int .i64 n37)] 0 w39 fun w40 => JoinT (σ := Unit) (fun J41 => ∃ (n42 : Int), w40.cell? (((⟨g38, 0, none⟩ : Addr).add 0).add 0) = some (.int .i64 n42) ∧ ∃ (n43 : Int), w40.cell? (((⟨g38, 0, none⟩ : Addr).add 1).add 0) = some (.int .i64 n43) ∧ bcase (n42 != n43) (∃ (n44 : Int), w40.cell? (((⟨g38, 0, none⟩ : Addr).add 0).add 0) = some (.int .i64 n44) ∧ bcase (n44 != x1) (K (.tuple #[]) w40) (J41 () w40)) (J41 () w40)) fun z45 w46 => ((∃ (A47 : Option Addr) (n48 : Nat) (c49 : Nat), w46.drew.cell? ((p0.add 1).add 0) = some (.slice A47 n48 c49) ∧ ((∃ (A50 : Option Addr) (n51 : Nat) (c52 : Nat), w46.drew.cell? ((p0.add 1).add 0) = some (.slice A50 n51 c52) ∧ ((0 : Int) ≤ (IntKind.wrap .i64 (((n51 : Nat) : Int) - 1)) ∧ (IntKind.wrap .i64 (((n51 : Nat) : Int) - 1)) ≤ ((c49 : Nat) : Int) ∧ ((stCells (p0.add 1) [(.slice A47 ((IntKind.wrap .i64 (((n51 : Nat) : Int) - 1)).toNat) c49)] 0 w46.drew fun w53 => next23 () w53) ∧ True))) ∧ True)) ∧ (∃ (A54 : Option Addr) (n55 : Nat) (c56 : Nat), w46.drew.cell? ((p0.add 1).add 0) = some (.slice A54 n55 c56) ∧ ((∃ (A57 : Option Addr) (n58 : Nat) (c59 : Nat), w46.drew.cell? ((p0.add 1).add 0) = some (.slice A57 n58 c59) ∧ ((0 : Int) ≤ (IntKind.wrap .i64 (((n55 : Nat) : Int) - 1)) ∧ (IntKind.wrap .i64 (((n55 : Nat) : Int) - 1)) ≤ ((c59 : Nat) : Int) ∧ ((stCells (p0.add 1) [(.slice A57 ((IntKind.wrap .i64 (((n55 : Nat) : Int) - 1)).toNat) c59)] 0 w46.drew fun w60 => next23 () w60) ∧ True))) ∧ True)) ∧ True)))) (K (.tuple #[]) w22)) () w

def impl_Warp_drop.ann : Ann := (.one (.loop [] (.seq (.seq .l (.two .l .l)) (.one (.seq .l (.cut [] (.seq .l (.two .l .l)) .each))))))

theorem impl_Warp_drop.con {s0 : D.Warp} {g1_ : Nat} {A0_1 : Option Addr} {c0_1 : Nat} {A0_2 : Option Addr} {c0_2 : Nat} {o1_ : Nat} {R1_ : Array Value} {x1 : Int} {r : D.Warp} {w : World} (hp : M.impl_Warp_drop_pre s0 x1) (hr : r = M.impl_Warp_drop s0 x1) (O1 : Plc w g1_ o1_ 29 R1_ #[(.int .i64 s0.Number), (.slice A0_1 s0.Frames.length c0_1), (.slice A0_2 s0.Regs.length c0_2)]) (O2 : Own el105 w 0 A0_1 c0_1 s0.Frames) (R0_2 : Row el3 w A0_2 s0.Regs) (hc0_2 : s0.Regs.length ≤ c0_2) (D0_2 : s0.Regs ≠ [] → ∀ g, InB A0_2 g → ¬ (fun k_ => InB A0_1 k_ ∨ k_ = g1_) g) :
    Cll Tryz.prog 141 #[(.pointer (some (⟨g1_, o1_, none⟩ : Addr))), (.int .i64 x1)] w (fun v_ w_ => ∃ (A0_ : Option Addr) (c0_ : Nat), v_ = (.tuple #[]) ∧ Plc w_ g1_ o1_ 29 R1_ #[(.int .i64 r.Number), (.slice A0_ r.Frames.length c0_), (.slice A0_2 r.Regs.length c0_2)] ∧ Own el105 w_ 0 A0_ c0_ r.Frames ∧ Mov w A0_1 A0_ ∧ r.Regs = s0.Regs ∧ Chg (fun k_ => InB A0_1 k_ ∨ k_ = g1_) w w_) := by
  have H := wp.impl_Warp_drop.math s0 x1 hp
  have hB := Chg.refl (fun k_ => InB A0_1 k_ ∨ k_ = g1_) w
  refine beginF mixed (fn := Tryz.f141) (by kernel_rfl) (by kernel_rfl) (an := impl_Warp_drop.ann) (V := impl_Warp_drop.vc (⟨g1_, o1_, none⟩ : Addr) x1) (by kernel_rfl) ?_
  unfold impl_Warp_drop.vc
  unfold wp.impl_Warp_drop at H
  obtain ⟨J75, ⟨m113, hJ112⟩, hS76⟩ := H
  refine ⟨fun m_ z_ w_ => ∃ (i70 : Int) (xs71 : List D.Frame) (A72 : Option Addr) (c73 : Nat), z_ = (()) ∧ J75 m_ (i70, xs71, ()) ∧ Chg (fun k_ => InB A0_1 k_ ∨ k_ = g1_) w w_ ∧ Plc w_ g1_ o1_ 29 R1_ #[(.int .i64 i70), (.slice A72 xs71.length c73), (.slice A0_2 s0.Regs.length c0_2)] ∧ Own el105 w_ 0 A72 c73 xs71 ∧ Mov w A0_1 A72, ⟨m113, s0.Number, s0.Frames, A0_1, c0_1, rfl, hJ112, hB, O1, O2, (Mov.same _ _)⟩, ?_⟩
  rintro m74 _ w78 ⟨i70, xs71, A72, c73, rfl, hJ114, hB, O1, O8, Mv8⟩
  have H := hS76 m74 _ hJ114
  clear hS76 hJ114
  try dsimp only at H ⊢
  refine ⟨_, _, _, (O1.at 1 rfl rfl), ?_⟩
  refine brc H (fun hc110 H => ?_) (fun hc110 H => ?_)
  ·refine ⟨(fun _ => False), _, _, _, ⟨(fun h_ => h_), (O1.at 1 rfl rfl)⟩, _, _, _, ⟨(fun h_ => h_), (O1.at 1 rfl rfl)⟩, ?_⟩
   obtain ⟨⟨h0_83, h1_84⟩, H⟩ := H
   obtain ⟨a81, ha82, hat80⟩ := Row.at O8.row h0_83 h1_84
   refine ⟨h0_83, h1_84, a81, ha82, _, ⟨(fun h_ => h_), (hat80 0 _ rfl)⟩, _, ⟨(fun h_ => h_), (hat80 1 _ rfl)⟩, _, ⟨(fun h_ => h_), (hat80 2 _ rfl)⟩, ?_⟩
   have hS79 := Chg.refl (fun _ => False) w78
   have O1 := O1.ext (Ext.drew _)
   have O8 := O8.ext (Ext.drew _)
   have hB := hB.then (Ext.drew _)
   have hS79 := hS79.then (Ext.drew _)
   refine newBlk (fun g9_ w85 L9 P9 e86 => ?_)
   have N1_9 := O1.ne L9
   have N8_9 := O8.apart_new L9
   have O1 := O1.ext e86
   have O8 := O8.ext e86
   have O9 := P9
   have LB9 := Nat.le_trans hS79.size L9
   have L9 := Nat.le_trans hB.size L9
   have hB := hB.then e86
   have hS79 := hS79.then e86
   refine ⟨sameBut_chg hS79, ?_⟩
   refine stBlk O9 (o := 0) (cs' := #[(.int .i64 ((rd xs71 (IntKind.wrap .i64 (((xs71.length : Nat) : Int) - 1))).Pc)), (.int .i64 ((rd xs71 (IntKind.wrap .i64 (((xs71.length : Nat) : Int) - 1))).Stop)), (.int .i64 ((rd xs71 (IntKind.wrap .i64 (((xs71.length : Nat) : Int) - 1))).Mask))]) rfl rfl (Nat.le_of_ble_eq_true rfl) rfl (fun w87 P9 e88 => ?_)
   have O1_ := O1.chg e88 N1_9
   have O8_ := O8.chg e88 N8_9
   have O1 := O1_
   have O8 := O8_
   have hB := hB.chgb e88 (Or.inl L9)
   have O9 := P9
   obtain ⟨K109, hKK109, H⟩ := joinP_out H
   refine ⟨fun z_ w_ => z_ = (()) ∧ K109 (()) ∧ Chg (fun k_ => InB A0_1 k_ ∨ k_ = g1_) w w_ ∧ Plc w_ g1_ o1_ 29 R1_ #[(.int .i64 i70), (.slice A72 xs71.length c73), (.slice A0_2 s0.Regs.length c0_2)] ∧ Own el105 w_ 0 A72 c73 xs71, ?_, ?_⟩
   ·refine ⟨_, (O9.at 0 rfl rfl), _, (O9.at 1 rfl rfl), ?_⟩
    refine brc H (fun hc93 H => ?_) (fun hc93 H => ?_)
    ·refine ⟨_, (O9.at 0 rfl rfl), ?_⟩
     refine brc H (fun hc92 H => ?_) (fun hc92 H => ?_)
     ·obtain rfl := hr.trans H.symm
      exact ⟨A72, c73, rfl, O1, (O8.mono (Nat.zero_le _)), Mv8, rfl, hB⟩
     exact ⟨rfl, H, hB, O1, O8⟩
    exact ⟨rfl, H, hB, O1, O8⟩
   rintro _ w90 ⟨rfl, H, hB, O1, O8⟩
   have H := hKK109 _ H
   try dsimp only at H ⊢
   have O1 := O1.ext (Ext.drew _)
   have O8 := O8.ext (Ext.drew _)
   have hB := hB.then (Ext.drew _)
   refine And.intro ?_ ?_
   ·have H := H.1
    refine ⟨_, _, _, (O1.at 1 rfl rfl), ?_⟩
    refine and_t ?_
    refine ⟨_, _, _, (O1.at 1 rfl rfl), ?_⟩
    obtain ⟨⟨hh94, hh95⟩, H⟩ := H
    refine and_assoc.1 ⟨⟨hh94, Int.le_trans hh95 (Int.ofNat_le.2 O8.le)⟩, ?_⟩
    rw [show ((IntKind.wrap .i64 (((xs71.length : Nat) : Int) - 1)).toNat) = ((List.take ((IntKind.wrap .i64 (((xs71.length : Nat) : Int) - 1)).toNat) xs71)).length from by first | rfl | (simp; done) | (simp; omega)]
    have O10 := (O8.take ((IntKind.wrap .i64 (((xs71.length : Nat) : Int) - 1)).toNat))
    refine and_t ?_
    refine stPlc O1 (j := 1) (cs' := #[(.int .i64 i70), (.slice A72 (((List.take ((IntKind.wrap .i64 (((xs71.length : Nat) : Int) - 1)).toNat) xs71)).length) c73), (.slice A0_2 s0.Regs.length c0_2)]) rfl rfl (Nat.le_of_ble_eq_true rfl) rfl (fun w96 P1 e97 => ?_)
    have O8_ := O8.chg e97 (O8.apart_type O1.b (by decide))
    have O10_ := O10.chg e97 (O8.apart_type O1.b (by decide))
    have O8 := O8_
    have O10 := O10_
    have hB := hB.chgb e97 (Or.inr (Or.inr rfl))
    have O1 := P1
    obtain ⟨m98, hm99, hJ100⟩ := H
    exact ⟨m98, hm99, i70, (List.take ((IntKind.wrap .i64 (((xs71.length : Nat) : Int) - 1)).toNat) xs71), A72, c73, rfl, hJ100, hB, O1, O10, Mv8⟩
   refine And.intro ?_ ?_
   ·have H := H.2.1
    refine ⟨_, _, _, (O1.at 1 rfl rfl), ?_⟩
    refine and_t ?_
    refine ⟨_, _, _, (O1.at 1 rfl rfl), ?_⟩
    obtain ⟨⟨hh101, hh102⟩, H⟩ := H
    refine and_assoc.1 ⟨⟨hh101, Int.le_trans hh102 (Int.ofNat_le.2 O8.le)⟩, ?_⟩
    rw [show ((IntKind.wrap .i64 (((xs71.length : Nat) : Int) - 1)).toNat) = ((List.take ((IntKind.wrap .i64 (((xs71.length : Nat) : Int) - 1)).toNat) xs71)).length from by first | rfl | (simp; done) | (simp; omega)]
    have O11 := (O8.take ((IntKind.wrap .i64 (((xs71.length : Nat) : Int) - 1)).toNat))
    refine and_t ?_
    refine stPlc O1 (j := 1) (cs' := #[(.int .i64 i70), (.slice A72 (((List.take ((IntKind.wrap .i64 (((xs71.length : Nat) : Int) - 1)).toNat) xs71)).length) c73), (.slice A0_2 s0.Regs.length c0_2)]) rfl rfl (Nat.le_of_ble_eq_true rfl) rfl (fun w103 P1 e104 => ?_)
    have O8_ := O8.chg e104 (O8.apart_type O1.b (by decide))
    have O11_ := O11.chg e104 (O8.apart_type O1.b (by decide))
    have O8 := O8_
    have O11 := O11_
    have hB := hB.chgb e104 (Or.inr (Or.inr rfl))
    have O1 := P1
    obtain ⟨m105, hm106, hJ107⟩ := H
    exact ⟨m105, hm106, i70, (List.take ((IntKind.wrap .i64 (((xs71.length : Nat) : Int) - 1)).toNat) xs71), A72, c73, rfl, hJ107, hB, O1, O11, Mv8⟩
   exact trivial
  obtain rfl := hr.trans H.symm
  exact ⟨A72, c73, rfl, O1, (O8.mono (Nat.zero_le _)), Mv8, rfl, hB⟩
def impl_Warp_pass.vc (p0 : Addr) (A1 : Option Addr) (n1 : Nat) (c1 : Nat) (w : World) (K : Value → World → Prop) : Prop :=
  (∃ M22 : Nat → Prop, ∃ (A23 : Option Addr) (n24 : Nat) (c25 : Nat), (¬ M22 ((p0.add 1)).block ∧ w.cell? ((p0.add 1).add 0) = some (.slice A23 n24 c25)) ∧ bcase (((n24 : Nat) : Int) == 0) (K (.bool false) w.drew) (∃ (A26 : Option Addr) (n27 : Nat) (c28 : Nat), (¬ M22 ((p0.add 1)).block ∧ w.cell? ((p0.add 1).add 0) = some (.slice A26 n27 c28)) ∧ ∃ (A29 : Option Addr) (n30 : Nat) (c31 : Nat), (¬ M22 ((p0.add 1)).block ∧ w.cell? ((p0.add 1).add 0) = some (.slice A29 n30 c31)) ∧ ((0 : Int) ≤ (IntKind.wrap .i64 (((n30 : Nat) : Int) - 1)) ∧ (IntKind.wrap .i64 (((n30 : Nat) : Int) - 1)) < ((n27 : Nat) : Int) ∧ ∃ a32 : Addr, A26 = some a32 ∧ ∃ (n33 : Int), (¬ M22 (((a32.add (((IntKind.wrap .i64 (((n30 : Nat) : Int) - 1)).toNat) * 3)).add 0)).block ∧ w.cell? (((a32.add (((IntKind.wrap .i64 (((n30 : Nat) : Int) - 1)).toNat) * 3)).add 0).add 0) = some (.int .i64 n33)) ∧ ((0 : Int) ≤ n33 ∧ n33 < ((n1 : Nat) : Int) ∧ ∃ a34 : Addr, A1 = some a34 ∧ ∃ (n35 : Int), (¬ M22 ((a34.add ((n33.toNat) * 4))).block ∧ w.cell? ((a34.add ((n33.toNat) * 4)).add 0) = some (.int .i64 n35)) ∧ ∃ (n36 : Int), (¬ M22 ((a34.add ((n33.toNat) * 4))).block ∧ w.cell? ((a34.add ((n33.toNat) * 4)).add 1) = some (.int .i64 n36)) ∧ ∃ (n37 : Int), (¬ M22 ((a34.add ((n33.toNat) * 4))).block ∧ w.cell? ((a34.add ((n33.toNat) * 4)).add 2) = some (.int .i64 n37)) ∧ ∃ (n38 : Int), (¬ M22 ((a34.add ((n33.toNat) * 4))).block ∧ w.cell? ((a34.add ((n33.toNat) * 4)).add 3) = some (.int .i64 n38)) ∧ Cll Tryz.prog 76 #[(.agg #[(.int .i64 n35), (.int .i64 n36), (.int .i64 n37), (.int .i64 n38)])] w.drew fun v39 w40 => (∃ (b41 : Bool), v39 = (.bool b41) ∧ SameBut M22 w w40 ∧ bcase (!b41) (K (.bool false) w40) (∃ (n42 : Int), w40.cell? (p0.add 0) = some (.int .i64 n42) ∧ ∃ (A43 : Option Addr) (n44 : Nat) (c45 : Nat), w40.cell? (p0.add 1) = some (.slice A43 n44 c45) ∧ ∃ (A46 : Option Addr) (n47 : Nat) (c48 : Nat), w40.cell? (p0.add 2) = some (.slice A46 n47 c48) ∧ Cll Tryz.prog 69 #[(.agg #[(.int .i64 n42), (.slice A43 n44 c45), (.slice A46 n47 c48)]), (.slice A1 n1 c1)] w40 fun v49 w50 => (∃ (b51 : Bool), v49 = (.bool b51) ∧ bcase b51 (Cll Tryz.prog 161 #[(.pointer (some p0)), (.slice A1 n1 c1)] w50 fun v52 w53 => (∃ (b54 : Bool), v52 = (.bool b54) ∧ bcase (!b54) (K (.bool false) w53) (Cll Tryz.prog 141 #[(.pointer (some p0)), (.int .i64 ((n1 : Nat) : Int))] w53 fun v55 w56 => (v55 = (.tuple #[]) ∧ K (.bool true) w56)))) (Cll Tryz.prog 162 #[(.pointer (some p0)), (.slice A1 n1 c1)] w50 fun v57 w58 => (v57 = (.tuple #[]) ∧ Cll Tryz.prog 141 #[(.pointer (some p0)), (.int .i64 ((n1 : Nat) : Int))] w58 fun v59 w60 => (v59 = (.tuple #[]) ∧ K (.bool true) w60))))))))))

def impl_Warp_pass.ann : Ann := (.seq .l (.seq (.seq .l (.two (.seq .l .l) .l)) (.seq (.seq .l (.two (.seq .l (.two (.seq .l .l) .l)) .l)) (.seq .l (.seq .l .l)))))

theorem impl_Warp_pass.con {s0 : D.Warp} {g1_ : Nat} {A0_1 : Option Addr} {c0_1 : Nat} {A0_2 : Option Addr} {c0_2 : Nat} {o1_ : Nat} {R1_ : Array Value} {xs1 : List D.Ins} {A1 : Option Addr} {c1 : Nat} {r : Bool × D.Warp} {w : World} (hp : M.impl_Warp_pass_pre s0 xs1) (hr : r = M.impl_Warp_pass s0 xs1) (O1 : Plc w g1_ o1_ 29 R1_ #[(.int .i64 s0.Number), (.slice A0_1 s0.Frames.length c0_1), (.slice A0_2 s0.Regs.length c0_2)]) (O2 : Own el105 w 0 A0_1 c0_1 s0.Frames) (O3 : Own el3 w 0 A0_2 c0_2 s0.Regs) (R1 : Row el91 w A1 xs1) (hc1 : xs1.length ≤ c1) (D1 : xs1 ≠ [] → ∀ g, InB A1 g → ¬ (fun k_ => InB A0_1 k_ ∨ InB A0_2 k_ ∨ k_ = g1_) g) :
    Cll Tryz.prog 116 #[(.pointer (some (⟨g1_, o1_, none⟩ : Addr))), (.slice A1 xs1.length c1)] w (fun v_ w_ => ∃ (A0_ : Option Addr) (c0_ : Nat) (A1_ : Option Addr) (c1_ : Nat), v_ = (.bool r.1) ∧ Plc w_ g1_ o1_ 29 R1_ #[(.int .i64 r.2.Number), (.slice A0_ r.2.Frames.length c0_), (.slice A1_ r.2.Regs.length c1_)] ∧ Own el105 w_ 0 A0_ c0_ r.2.Frames ∧ Mov w A0_1 A0_ ∧ Own el3 w_ 0 A1_ c1_ r.2.Regs ∧ Mov w A0_2 A1_ ∧ Chg (fun k_ => InB A0_1 k_ ∨ InB A0_2 k_ ∨ k_ = g1_) w w_) := by
  have H := wp.impl_Warp_pass.math s0 xs1 hp
  have hB := Chg.refl (fun k_ => InB A0_1 k_ ∨ InB A0_2 k_ ∨ k_ = g1_) w
  refine beginF mixed (fn := Tryz.f116) (by kernel_rfl) (by kernel_rfl) (an := impl_Warp_pass.ann) (V := impl_Warp_pass.vc (⟨g1_, o1_, none⟩ : Addr) A1 xs1.length c1) (by kernel_rfl) ?_
  unfold impl_Warp_pass.vc
  unfold wp.impl_Warp_pass at H
  refine ⟨(fun _ => False), _, _, _, ⟨(fun h_ => h_), (O1.at 1 rfl rfl)⟩, ?_⟩
  refine brc H (fun hc78 H => ?_) (fun hc78 H => ?_)
  ·have O1 := O1.ext (Ext.drew _)
   have O2 := O2.ext (Ext.drew _)
   have O3 := O3.ext (Ext.drew _)
   have hB := hB.then (Ext.drew _)
   obtain rfl := hr.trans H.symm
   exact ⟨A0_1, c0_1, A0_2, c0_2, rfl, O1, (O2.mono (Nat.zero_le _)), (Mov.same _ _), (O3.mono (Nat.zero_le _)), (Mov.same _ _), hB⟩
  refine ⟨_, _, _, ⟨(fun h_ => h_), (O1.at 1 rfl rfl)⟩, _, _, _, ⟨(fun h_ => h_), (O1.at 1 rfl rfl)⟩, ?_⟩
  obtain ⟨⟨h0_25, h1_26⟩, H⟩ := H
  obtain ⟨a23, ha24, hat22⟩ := Row.at O2.row h0_25 h1_26
  refine ⟨h0_25, h1_26, a23, ha24, _, ⟨(fun h_ => h_), (hat22 0 _ rfl)⟩, ?_⟩
  obtain ⟨⟨h0_30, h1_31⟩, H⟩ := H
  obtain ⟨a28, ha29, hat27⟩ := Row.at (R1.chgS hB D1) h0_30 h1_31
  refine ⟨h0_30, h1_31, a28, ha29, _, ⟨(fun h_ => h_), (hat27 0 _ rfl)⟩, _, ⟨(fun h_ => h_), (hat27 1 _ rfl)⟩, _, ⟨(fun h_ => h_), (hat27 2 _ rfl)⟩, _, ⟨(fun h_ => h_), (hat27 3 _ rfl)⟩, ?_⟩
  have hS21 := Chg.refl (fun _ => False) w
  have O1 := O1.ext (Ext.drew _)
  have O2 := O2.ext (Ext.drew _)
  have O3 := O3.ext (Ext.drew _)
  have hB := hB.then (Ext.drew _)
  have hS21 := hS21.then (Ext.drew _)
  obtain ⟨r32, hr33, H⟩ := callO H
  refine (impl_IsLocal.con hr33 ).mono ?_
  rintro _ w35 ⟨rfl, e36⟩
  have O1 := O1.ext e36
  have O2 := O2.ext e36
  have O3 := O3.ext e36
  have hB := hB.then e36
  have hS21 := hS21.then e36
  refine ⟨r32, rfl, sameBut_chg hS21, ?_⟩
  refine brc H (fun hc77 H => ?_) (fun hc77 H => ?_)
  ·obtain rfl := hr.trans H.symm
   exact ⟨A0_1, c0_1, A0_2, c0_2, rfl, O1, (O2.mono (Nat.zero_le _)), (Mov.same _ _), (O3.mono (Nat.zero_le _)), (Mov.same _ _), hB⟩
  refine ⟨_, (O1.at 0 rfl rfl), _, _, _, (O1.at 1 rfl rfl), _, _, _, (O1.at 2 rfl rfl), ?_⟩
  obtain ⟨hp39, H⟩ := H
  obtain ⟨r37, hr38, H⟩ := callO H
  refine (impl_Warp_splits.con hp39 hr38 O2.row O2.le O3.row O3.le (R1.chgS hB D1) hc1).mono ?_
  rintro _ w40 ⟨rfl, e41⟩
  have O1 := O1.ext e41
  have O2 := O2.ext e41
  have O3 := O3.ext e41
  have hB := hB.then e41
  refine ⟨r37, rfl, ?_⟩
  refine brc H (fun hc76 H => ?_) (fun hc76 H => ?_)
  ·obtain ⟨hp44, H⟩ := H
   obtain ⟨r42, hr43, H⟩ := callO H
   refine (impl_Warp_separate.con hp44 hr43 O1 (O2.mono (Nat.zero_le _)) O3.row O3.le (R1.chgS hB D1) hc1 (fun _ => (fun g h_ => (fun hS_ => hS_.elim (((Own.apart2_type O3 O2 (by decide))).inb g h_) ((box_inb (O3.apart_type O1.b (by decide))) g h_)))) (fun hx_ => (fun g h_ => (fun hS_ => hS_.elim ((fun g h_ hS_ => D1 hx_ g h_ (Or.inl hS_)) g h_) ((fun g h_ hS_ => D1 hx_ g h_ (Or.inr (Or.inr hS_))) g h_))))).mono ?_
   rintro _ w45 ⟨A47, c48, rfl, Q1, Q5, Mv5, hq49, e46⟩
   rw [hq49] at Q1
   have Mw5 := Mov.trans (Mov.same w A0_1) Mv5 hB.size
   have O3 := O3.chgS e46 (fun g h_ => (fun hS_ => hS_.elim (((Own.apart2_type O3 O2 (by decide))).inb g h_) ((box_inb (O3.apart_type O1.b (by decide))) g h_)))
   have hB := hB.chg e46 (fun g => (fun hS_ => hS_.elim ((fun g h_ => (Or.inr (Or.inl h_))) g) ((fun g h_ => Or.inr (Or.inr (Or.inr h_))) g)))
   have O1 := Q1
   have O5 := Q5
   refine ⟨r42.1, rfl, ?_⟩
   refine brc H (fun hc58 H => ?_) (fun hc58 H => ?_)
   ·obtain rfl := hr.trans H.symm
    exact ⟨A47, c48, A0_2, c0_2, rfl, O1, (O5.mono (Nat.zero_le _)), Mw5, (O3.mono (Nat.zero_le _)), (Mov.same _ _), hB⟩
   obtain ⟨hp52, H⟩ := H
   obtain ⟨r50, hr51, H⟩ := callO H
   refine (impl_Warp_drop.con hp52 hr51 O1 (O5.mono (Nat.zero_le _)) O3.row O3.le (fun _ => (fun g h_ => (fun hS_ => hS_.elim (((Own.apart2_type O3 O5 (by decide))).inb g h_) ((box_inb (O3.apart_type O1.b (by decide))) g h_))))).mono ?_
   rintro _ w53 ⟨A55, c56, rfl, Q1, Q6, Mv6, hq57, e54⟩
   rw [hq57] at Q1
   have Mw6 := Mov.trans Mw5 Mv6 hB.size
   have O3 := O3.chgS e54 (fun g h_ => (fun hS_ => hS_.elim (((Own.apart2_type O3 O5 (by decide))).inb g h_) ((box_inb (O3.apart_type O1.b (by decide))) g h_)))
   have hB := hB.chg e54 (fun g => (fun hS_ => hS_.elim ((fun g h_ => (mv_or Mw5 h_ (fun h_ => (Or.inl h_)))) g) ((fun g h_ => Or.inr (Or.inr (Or.inr h_))) g)))
   have O1 := Q1
   have O6 := Q6
   refine ⟨rfl, ?_⟩
   obtain rfl := hr.trans H.symm
   exact ⟨A55, c56, A0_2, c0_2, rfl, O1, (O6.mono (Nat.zero_le _)), Mw6, (O3.mono (Nat.zero_le _)), (Mov.same _ _), hB⟩
  obtain ⟨hp61, H⟩ := H
  obtain ⟨r59, hr60, H⟩ := callO H
  refine (impl_Warp_advance.con hp61 hr60 O1 (O2.mono (Nat.zero_le _)) (O3.mono (Nat.zero_le _)) (R1.chgS hB D1) hc1 (fun hx_ => (fun g h_ => (fun hS_ => hS_.elim ((fun g h_ hS_ => D1 hx_ g h_ (Or.inl hS_)) g h_) (fun hS_ => hS_.elim ((fun g h_ hS_ => D1 hx_ g h_ (Or.inr (Or.inl hS_))) g h_) ((fun g h_ hS_ => D1 hx_ g h_ (Or.inr (Or.inr hS_))) g h_)))))).mono ?_
  rintro _ w62 ⟨A64, c65, A66, c67, rfl, Q1, Q7, Mv7, Q8, Mv8, e63⟩
  have Mw7 := Mov.trans (Mov.same w A0_1) Mv7 hB.size
  have Mw8 := Mov.trans (Mov.same w A0_2) Mv8 hB.size
  have hB := hB.chg e63 (fun g => (fun hS_ => hS_.elim ((fun g h_ => (Or.inr (Or.inl h_))) g) (fun hS_ => hS_.elim ((fun g h_ => (Or.inr (Or.inr (Or.inl h_)))) g) ((fun g h_ => Or.inr (Or.inr (Or.inr h_))) g))))
  have O1 := Q1
  have O7 := Q7
  have O8 := Q8
  refine ⟨rfl, ?_⟩
  obtain ⟨hp70, H⟩ := H
  obtain ⟨r68, hr69, H⟩ := callO H
  refine (impl_Warp_drop.con hp70 hr69 O1 (O7.mono (Nat.zero_le _)) O8.row O8.le (fun _ => (fun g h_ => (fun hS_ => hS_.elim (((Own.apart2_type O8 O7 (by decide))).inb g h_) ((box_inb (O8.apart_type O1.b (by decide))) g h_))))).mono ?_
  rintro _ w71 ⟨A73, c74, rfl, Q1, Q9, Mv9, hq75, e72⟩
  rw [hq75] at Q1
  have Mw9 := Mov.trans Mw7 Mv9 hB.size
  have O8 := O8.chgS e72 (fun g h_ => (fun hS_ => hS_.elim (((Own.apart2_type O8 O7 (by decide))).inb g h_) ((box_inb (O8.apart_type O1.b (by decide))) g h_)))
  have hB := hB.chg e72 (fun g => (fun hS_ => hS_.elim ((fun g h_ => (mv_or Mw7 h_ (fun h_ => (Or.inl h_)))) g) ((fun g h_ => Or.inr (Or.inr (Or.inr h_))) g)))
  have O1 := Q1
  have O9 := Q9
  refine ⟨rfl, ?_⟩
  obtain rfl := hr.trans H.symm
  exact ⟨A73, c74, A66, c67, rfl, O1, (O9.mono (Nat.zero_le _)), Mw9, (O8.mono (Nat.zero_le _)), Mw8, hB⟩
def impl_RunWarp.vc (A0 : Option Addr) (n0 : Nat) (c0 : Nat) (x1_0 : Int) (A1_1 : Option Addr) (n1_1 : Nat) (c1_1 : Nat) (A1_2 : Option Addr) (n1_2 : Nat) (c1_2 : Nat) (x2 : Int) (w : World) (K : Value → World → Prop) : Prop :=
  newK w (.cells #[(.int .i64 x1_0), (.slice A1_1 n1_1 c1_1), (.slice A1_2 n1_2 c1_2)] 29) fun g21 w22 => newK w22 (.cells #[(.int .i64 0), (.slice none 0 0), (.slice none 0 0)] 29) fun g23 w24 => ∃ (n25 : Int), w24.cell? ((⟨g21, 0, none⟩ : Addr).add 0) = some (.int .i64 n25) ∧ ∃ (A26 : Option Addr) (n27 : Nat) (c28 : Nat), w24.cell? ((⟨g21, 0, none⟩ : Addr).add 1) = some (.slice A26 n27 c28) ∧ ∃ (A29 : Option Addr) (n30 : Nat) (c31 : Nat), w24.cell? ((⟨g21, 0, none⟩ : Addr).add 2) = some (.slice A29 n30 c31) ∧ Cll Tryz.prog 114 #[(.agg #[(.int .i64 n25), (.slice A26 n27 c28), (.slice A29 n30 c31)])] w24 fun v32 w33 => (∃ (n34 : Int), True ∧ ∃ (A35 : Option Addr) (n36 : Nat) (c37 : Nat), True ∧ ∃ (A38 : Option Addr) (n39 : Nat) (c40 : Nat), True ∧ v32 = (.agg #[(.int .i64 n34), (.slice A35 n36 c37), (.slice A38 n39 c40)]) ∧ newK w33 (.cells #[(.int .i64 0), (.slice none 0 0), (.slice none 0 0)] 29) fun g41 w42 => stCells (⟨g41, 0, none⟩ : Addr) [(.int .i64 n34), (.slice A35 n36 c37), (.slice A38 n39 c40)] 0 w42 fun w43 => Cll Tryz.prog 27 #[(.slice A0 n0 c0)] w43 fun v45 w46 => (∃ (b47 : Bool), v45 = (.bool b47) ∧ bcase (!b47) (∃ (n48 : Int), w46.cell? ((⟨g41, 0, none⟩ : Addr).add 0) = some (.int .i64 n48) ∧ ∃ (A49 : Option Addr) (n50 : Nat) (c51 : Nat), w46.cell? ((⟨g41, 0, none⟩ : Addr).add 1) = some (.slice A49 n50 c51) ∧ ∃ (A52 : Option Addr) (n53 : Nat) (c54 : Nat), w46.cell? ((⟨g41, 0, none⟩ : Addr).add 2) = some (.slice A52 n53 c54) ∧ stCells (⟨g23, 0, none⟩ : Addr) [(.int .i64 n48), (.slice A49 n50 c51), (.slice A52 n53 c54)] 0 w46 fun w55 => ∃ (n56 : Int), w55.cell? ((⟨g23, 0, none⟩ : Addr).add 0) = some (.int .i64 n56) ∧ ∃ (A57 : Option Addr) (n58 : Nat) (c59 : Nat), w55.cell? ((⟨g23, 0, none⟩ : Addr).add 1) = some (.slice A57 n58 c59) ∧ ∃ (A60 : Option Addr) (n61 : Nat) (c62 : Nat), w55.cell? ((⟨g23, 0, none⟩ : Addr).add 2) = some (.slice A60 n61 c62) ∧ K (.tuple #[(.agg #[(.int .i64 n56), (.slice A57 n58 c59), (.slice A60 n61 c62)]), (.int .i64 (-1))]) w55) (∃ (n63 : Int), w46.cell? ((⟨g21, 0, none⟩ : Addr).add 0) = some (.int .i64 n63) ∧ ∃ (A64 : Option Addr) (n65 : Nat) (c66 : Nat), w46.cell? ((⟨g21, 0, none⟩ : Addr).add 1) = some (.slice A64 n65 c66) ∧ ∃ (A67 : Option Addr) (n68 : Nat) (c69 : Nat), w46.cell? ((⟨g21, 0, none⟩ : Addr).add 2) = some (.slice A67 n68 c69) ∧ Cll Tryz.prog 115 #[(.slice A0 n0 c0), (.agg #[(.int .i64 n63), (.slice A64 n65 c66), (.slice A67 n68 c69)])] w46 fun v70 w71 => (∃ (b72 : Bool), v70 = (.bool b72) ∧ bcase (!b72) (∃ (n73 : Int), w71.cell? ((⟨g41, 0, none⟩ : Addr).add 0) = some (.int .i64 n73) ∧ ∃ (A74 : Option Addr) (n75 : Nat) (c76 : Nat), w71.cell? ((⟨g41, 0, none⟩ : Addr).add 1) = some (.slice A74 n75 c76) ∧ ∃ (A77 : Option Addr) (n78 : Nat) (c79 : Nat), w71.cell? ((⟨g41, 0, none⟩ : Addr).add 2) = some (.slice A77 n78 c79) ∧ stCells (⟨g23, 0, none⟩ : Addr) [(.int .i64 n73), (.slice A74 n75 c76), (.slice A77 n78 c79)] 0 w71 fun w80 => ∃ (n81 : Int), w80.cell? ((⟨g23, 0, none⟩ : Addr).add 0) = some (.int .i64 n81) ∧ ∃ (A82 : Option Addr) (n83 : Nat) (c84 : Nat), w80.cell? ((⟨g23, 0, none⟩ : Addr).add 1) = some (.slice A82 n83 c84) ∧ ∃ (A85 : Option Addr) (n86 : Nat) (c87 : Nat), w80.cell? ((⟨g23, 0, none⟩ : Addr).add 2) = some (.slice A85 n86 c87) ∧ K (.tuple #[(.agg #[(.int .i64 n81), (.slice A82 n83 c84), (.slice A85 n86 c87)]), (.int .i64 (-1))]) w80) (Cll Tryz.prog 58 #[(.int .i64 x2), (.int .i64 0), (.int .i64 8000)] w71 fun v88 w89 => (∃ (b90 : Bool), v88 = (.bool b90) ∧ bcase (!b90) (∃ (n91 : Int), w89.cell? ((⟨g41, 0, none⟩ : Addr).add 0) = some (.int .i64 n91) ∧ ∃ (A92 : Option Addr) (n93 : Nat) (c94 : Nat), w89.cell? ((⟨g41, 0, none⟩ : Addr).add 1) = some (.slice A92 n93 c94) ∧ ∃ (A95 : Option Addr) (n96 : Nat) (c97 : Nat), w89.cell? ((⟨g41, 0, none⟩ : Addr).add 2) = some (.slice A95 n96 c97) ∧ stCells (⟨g23, 0, none⟩ : Addr) [(.int .i64 n91), (.slice A92 n93 c94), (.slice A95 n96 c97)] 0 w89 fun w98 => ∃ (n99 : Int), w98.cell? ((⟨g23, 0, none⟩ : Addr).add 0) = some (.int .i64 n99) ∧ ∃ (A100 : Option Addr) (n101 : Nat) (c102 : Nat), w98.cell? ((⟨g23, 0, none⟩ : Addr).add 1) = some (.slice A100 n101 c102) ∧ ∃ (A103 : Option Addr) (n104 : Nat) (c105 : Nat), w98.cell? ((⟨g23, 0, none⟩ : Addr).add 2) = some (.slice A103 n104 c105) ∧ K (.tuple #[(.agg #[(.int .i64 n99), (.slice A100 n101 c102), (.slice A103 n104 c105)]), (.int .i64 (-1))]) w98) (LoopT (σ := Int × Unit) (fun z106 w107 next108 => bcase (decide (z106.1 < x2)) (Cll Tryz.prog 116 #[(.pointer (some (⟨g41, 0, none⟩ : Addr))), (.slice A0 n0 c0)] w107 fun v109 w110 => (∃ (b111 : Bool), v109 = (.bool b111) ∧ bcase b111 (next108 ((IntKind.wrap .i64 (z106.1 + 1)), ()) w110) (∃ (n112 : Int), w110.cell? ((⟨g41, 0, none⟩ : Addr).add 0) = some (.int .i64 n112) ∧ ∃ (A113 : Option Addr) (n114 : Nat) (c115 : Nat), w110.cell? ((⟨g41, 0, none⟩ : Addr).add 1) = some (.slice A113 n114 c115) ∧ ∃ (A116 : Option Addr) (n117 : Nat) (c118 : Nat), w110.cell? ((⟨g41, 0, none⟩ : Addr).add 2) = some (.slice A116 n117 c118) ∧ stCells (⟨g23, 0, none⟩ : Addr) [(.int .i64 n112), (.slice A113 n114 c115), (.slice A116 n117 c118)] 0 w110 fun w119 => ∃ (n120 : Int), w119.cell? ((⟨g23, 0, none⟩ : Addr).add 0) = some (.int .i64 n120) ∧ ∃ (A121 : Option Addr) (n122 : Nat) (c123 : Nat), w119.cell? ((⟨g23, 0, none⟩ : Addr).add 1) = some (.slice A121 n122 c123) ∧ ∃ (A124 : Option Addr) (n125 : Nat) (c126 : Nat), w119.cell? ((⟨g23, 0, none⟩ : Addr).add 2) = some (.slice A124 n125 c126) ∧ K (.tuple #[(.agg #[(.int .i64 n120), (.slice A121 n122 c123), (.slice A124 n125 c126)]), (.int .i64 z106.1)]) w119))) (∃ (n127 : Int), w107.cell? ((⟨g41, 0, none⟩ : Addr).add 0) = some (.int .i64 n127) ∧ ∃ (A128 : Option Addr) (n129 : Nat) (c130 : Nat), w107.cell? ((⟨g41, 0, none⟩ : Addr).add 1) = some (.slice A128 n129 c130) ∧ ∃ (A131 : Option Addr) (n132 : Nat) (c133 : Nat), w107.cell? ((⟨g41, 0, none⟩ : Addr).add 2) = some (.slice A131 n132 c133) ∧ stCells (⟨g23, 0, none⟩ : Addr) [(.int .i64 n127), (.slice A128 n129 c130), (.slice A131 n132 c133)] 0 w107 fun w134 => ∃ (n135 : Int), w134.cell? ((⟨g23, 0, none⟩ : Addr).add 0) = some (.int .i64 n135) ∧ ∃ (A136 : Option Addr) (n137 : Nat) (c138 : Nat), w134.cell? ((⟨g23, 0, none⟩ : Addr).add 1) = some (.slice A136 n137 c138) ∧ ∃ (A139 : Option Addr) (n140 : Nat) (c141 : Nat), w134.cell? ((⟨g23, 0, none⟩ : Addr).add 2) = some (.slice A139 n140 c141) ∧ K (.tuple #[(.agg #[(.int .i64 n135), (.slice A136 n137 c138), (.slice A139 n140 c141)]), (.int .i64 z106.1)]) w134)) (0, ()) w89)))))))

def impl_RunWarp.ann : Ann := (.seq .l (.seq .l (.seq (.seq .l (.two (.seq .l .l) .l)) (.seq .l (.seq (.one (.loop [(9, .int .i64)] (.seq (.seq .l (.two .l .l)) (.one .l)))) (.seq .l .l))))))

theorem impl_RunWarp.con {xs0 : List D.Ins} {A0 : Option Addr} {c0 : Nat} {s1 : D.Warp} {A1_1 : Option Addr} {c1_1 : Nat} {A1_2 : Option Addr} {c1_2 : Nat} {x2 : Int} {r : D.Warp × Int} {w : World} (hp : M.impl_RunWarp_pre xs0 s1 x2) (hr : r = M.impl_RunWarp xs0 s1 x2) (R0 : Row el91 w A0 xs0) (hc0 : xs0.length ≤ c0) (R1_1 : Row el105 w A1_1 s1.Frames) (hc1_1 : s1.Frames.length ≤ c1_1) (R1_2 : Row el3 w A1_2 s1.Regs) (hc1_2 : s1.Regs.length ≤ c1_2) :
    Cll Tryz.prog 56 #[(.slice A0 xs0.length c0), (.agg #[(.int .i64 s1.Number), (.slice A1_1 s1.Frames.length c1_1), (.slice A1_2 s1.Regs.length c1_2)]), (.int .i64 x2)] w (fun v_ w_ => ∃ (A0_ : Option Addr) (c0_ : Nat) (A1_ : Option Addr) (c1_ : Nat), v_ = (.tuple #[(.agg #[(.int .i64 r.1.Number), (.slice A0_ r.1.Frames.length c0_), (.slice A1_ r.1.Regs.length c1_)]), (.int .i64 r.2)]) ∧ Own el105 w_ w.heap.size A0_ c0_ r.1.Frames ∧ Own el3 w_ w.heap.size A1_ c1_ r.1.Regs ∧ Ext w w_) := by
  have H := wp.impl_RunWarp.math xs0 s1 x2 hp
  have hB := Ext.refl w
  refine beginF mixed (fn := Tryz.f56) (by kernel_rfl) (by kernel_rfl) (an := impl_RunWarp.ann) (V := impl_RunWarp.vc A0 xs0.length c0 s1.Number A1_1 s1.Frames.length c1_1 A1_2 s1.Regs.length c1_2 x2) (by kernel_rfl) ?_
  unfold impl_RunWarp.vc
  unfold wp.impl_RunWarp at H
  refine newBlk (fun g4_ w21 L4 P4 e22 => ?_)
  have O4 := P4
  have L4 := Nat.le_trans hB.size L4
  have hB := ethen hB e22
  refine newBlk (fun g5_ w23 L5 P5 e24 => ?_)
  have N4_5 := O4.ne L5
  have O4 := O4.ext e24
  have O5 := P5
  have L5 := Nat.le_trans hB.size L5
  have hB := ethen hB e24
  refine ⟨_, (O4.at 0 rfl rfl), _, _, _, (O4.at 1 rfl rfl), _, _, _, (O4.at 2 rfl rfl), ?_⟩
  obtain ⟨hp27, H⟩ := H
  obtain ⟨r25, hr26, H⟩ := callO H
  refine (impl_copyWarp.con hp27 hr26 (R1_1.ext hB) hc1_1 (R1_2.ext hB) hc1_2).mono ?_
  rintro _ w28 ⟨A30, c31, A32, c33, rfl, P6, P7, e29⟩
  have N6_4 := P6.apart_old O4.lt
  have N6_5 := P6.apart_old O5.lt
  have N7_4 := P7.apart_old O4.lt
  have N7_5 := P7.apart_old O5.lt
  have O4 := O4.ext e29
  have O5 := O5.ext e29
  have O6 := P6.mono hB.size
  have O7 := P7.mono hB.size
  have hB := ethen hB e29
  refine ⟨r25.Number, trivial, A30, r25.Frames.length, c31, trivial, A32, r25.Regs.length, c33, trivial, rfl, ?_⟩
  refine newBlk (fun g8_ w34 L8 P8 e35 => ?_)
  have N4_8 := O4.ne L8
  have N5_8 := O5.ne L8
  have N6_8 := O6.apart_new L8
  have N7_8 := O7.apart_new L8
  have O4 := O4.ext e35
  have O5 := O5.ext e35
  have O6 := O6.ext e35
  have O7 := O7.ext e35
  have O8 := P8
  have L8 := Nat.le_trans hB.size L8
  have hB := ethen hB e35
  refine stBlk O8 (o := 0) (cs' := #[(.int .i64 r25.Number), (.slice A30 r25.Frames.length c31), (.slice A32 r25.Regs.length c33)]) rfl rfl (Nat.le_of_ble_eq_true rfl) rfl (fun w36 P8 e37 => ?_)
  have O4_ := O4.chg e37 N4_8
  have O5_ := O5.chg e37 N5_8
  have O6_ := O6.chg e37 N6_8
  have O7_ := O7.chg e37 N7_8
  have O4 := O4_
  have O5 := O5_
  have O6 := O6_
  have O7 := O7_
  have hB := echg hB e37 L8
  have O8 := P8
  obtain ⟨hp40, H⟩ := H
  obtain ⟨r38, hr39, H⟩ := callO H
  refine (impl_IsQuiet.con hp40 hr39 (R0.ext hB) hc0).mono ?_
  rintro _ w41 ⟨rfl, e42⟩
  have O4 := O4.ext e42
  have O5 := O5.ext e42
  have O6 := O6.ext e42
  have O7 := O7.ext e42
  have O8 := O8.ext e42
  have hB := ethen hB e42
  refine ⟨r38, rfl, ?_⟩
  refine brc H (fun hc111 H => ?_) (fun hc111 H => ?_)
  ·refine ⟨_, (O8.at 0 rfl rfl), _, _, _, (O8.at 1 rfl rfl), _, _, _, (O8.at 2 rfl rfl), ?_⟩
   refine stBlk O5 (o := 0) (cs' := #[(.int .i64 r25.Number), (.slice A30 r25.Frames.length c31), (.slice A32 r25.Regs.length c33)]) rfl rfl (Nat.le_of_ble_eq_true rfl) rfl (fun w43 P5 e44 => ?_)
   have O6_ := O6.chg e44 N6_5
   have O7_ := O7.chg e44 N7_5
   have O8_ := O8.chg e44 (N5_8).symm
   have O6 := O6_
   have O7 := O7_
   have O8 := O8_
   have hB := echg hB e44 L5
   have O5 := P5
   refine ⟨_, (O5.at 0 rfl rfl), _, _, _, (O5.at 1 rfl rfl), _, _, _, (O5.at 2 rfl rfl), ?_⟩
   obtain rfl := hr.trans H.symm
   exact ⟨A30, c31, A32, c33, rfl, O6, O7, hB⟩
  refine ⟨_, (O4.at 0 rfl rfl), _, _, _, (O4.at 1 rfl rfl), _, _, _, (O4.at 2 rfl rfl), ?_⟩
  obtain ⟨hp47, H⟩ := H
  obtain ⟨r45, hr46, H⟩ := callO H
  refine (impl_WarpOk.con hp47 hr46 (R0.ext hB) hc0 (R1_1.ext hB) hc1_1 (R1_2.ext hB) hc1_2).mono ?_
  rintro _ w48 ⟨rfl, e49⟩
  have O4 := O4.ext e49
  have O5 := O5.ext e49
  have O6 := O6.ext e49
  have O7 := O7.ext e49
  have O8 := O8.ext e49
  have hB := ethen hB e49
  refine ⟨r45, rfl, ?_⟩
  refine brc H (fun hc110 H => ?_) (fun hc110 H => ?_)
  ·refine ⟨_, (O8.at 0 rfl rfl), _, _, _, (O8.at 1 rfl rfl), _, _, _, (O8.at 2 rfl rfl), ?_⟩
   refine stBlk O5 (o := 0) (cs' := #[(.int .i64 r25.Number), (.slice A30 r25.Frames.length c31), (.slice A32 r25.Regs.length c33)]) rfl rfl (Nat.le_of_ble_eq_true rfl) rfl (fun w50 P5 e51 => ?_)
   have O6_ := O6.chg e51 N6_5
   have O7_ := O7.chg e51 N7_5
   have O8_ := O8.chg e51 (N5_8).symm
   have O6 := O6_
   have O7 := O7_
   have O8 := O8_
   have hB := echg hB e51 L5
   have O5 := P5
   refine ⟨_, (O5.at 0 rfl rfl), _, _, _, (O5.at 1 rfl rfl), _, _, _, (O5.at 2 rfl rfl), ?_⟩
   obtain rfl := hr.trans H.symm
   exact ⟨A30, c31, A32, c33, rfl, O6, O7, hB⟩
  obtain ⟨r52, hr53, H⟩ := callO H
  refine (impl_within.con hr53 ).mono ?_
  rintro _ w55 ⟨rfl, e56⟩
  have O4 := O4.ext e56
  have O5 := O5.ext e56
  have O6 := O6.ext e56
  have O7 := O7.ext e56
  have O8 := O8.ext e56
  have hB := ethen hB e56
  refine ⟨r52, rfl, ?_⟩
  refine brc H (fun hc109 H => ?_) (fun hc109 H => ?_)
  ·refine ⟨_, (O8.at 0 rfl rfl), _, _, _, (O8.at 1 rfl rfl), _, _, _, (O8.at 2 rfl rfl), ?_⟩
   refine stBlk O5 (o := 0) (cs' := #[(.int .i64 r25.Number), (.slice A30 r25.Frames.length c31), (.slice A32 r25.Regs.length c33)]) rfl rfl (Nat.le_of_ble_eq_true rfl) rfl (fun w57 P5 e58 => ?_)
   have O6_ := O6.chg e58 N6_5
   have O7_ := O7.chg e58 N7_5
   have O8_ := O8.chg e58 (N5_8).symm
   have O6 := O6_
   have O7 := O7_
   have O8 := O8_
   have hB := echg hB e58 L5
   have O5 := P5
   refine ⟨_, (O5.at 0 rfl rfl), _, _, _, (O5.at 1 rfl rfl), _, _, _, (O5.at 2 rfl rfl), ?_⟩
   obtain rfl := hr.trans H.symm
   exact ⟨A30, c31, A32, c33, rfl, O6, O7, hB⟩
  obtain ⟨J83, ⟨m107, hJ106⟩, hS84⟩ := H
  refine ⟨fun m_ z_ w_ => ∃ (i74 : Int) (i75 : Int) (xs76 : List D.Frame) (xs79 : List Int) (A77 : Option Addr) (c78 : Nat) (A80 : Option Addr) (c81 : Nat), z_ = (i74, ()) ∧ J83 m_ (i74, i75, xs76, xs79, ()) ∧ Ext w w_ ∧ Blk w_ g8_ 29 #[(.int .i64 i75), (.slice A77 xs76.length c78), (.slice A80 xs79.length c81)] ∧ Own el105 w_ w.heap.size A77 c78 xs76 ∧ Own el3 w_ w.heap.size A80 c81 xs79 ∧ Blk w_ g5_ 29 #[(.int .i64 0), (.slice none 0 0), (.slice none 0 0)], ⟨m107, 0, r25.Number, r25.Frames, r25.Regs, A30, c31, A32, c33, rfl, hJ106, hB, O8, O6, O7, O5⟩, ?_⟩
  rintro m82 _ w86 ⟨i74, i75, xs76, xs79, A77, c78, A80, c81, rfl, hJ108, hB, O8, O11, O12, O5⟩
  have H := hS84 m82 _ hJ108
  clear hS84 hJ108
  try dsimp only at H ⊢
  refine brc H (fun hc104 H => ?_) (fun hc104 H => ?_)
  ·obtain ⟨hp89, H⟩ := H
   obtain ⟨r87, hr88, H⟩ := callO H
   refine (impl_Warp_pass.con hp89 hr88 O8.plc (O11.mono (Nat.zero_le _)) (O12.mono (Nat.zero_le _)) (R0.ext hB) hc0 (fun hx_ => (fun g h_ => (fun hS_ => hS_.elim ((fun g h_ hS_ => Nat.not_le.2 (R0.old hx_ g h_) (O11.low g hS_)) g h_) (fun hS_ => hS_.elim ((fun g h_ hS_ => Nat.not_le.2 (R0.old hx_ g h_) (O12.low g hS_)) g h_) ((fun g h_ hS_ => Nat.not_le.2 (R0.old hx_ g h_) (box_low L8 _ hS_)) g h_)))))).mono ?_
   rintro _ w90 ⟨A92, c93, A94, c95, rfl, Q8, Q13, Mv13, Q14, Mv14, e91⟩
   have Q8 := Q8.toBlk rfl
   have Lw13 := Mv13.low O11.low hB.size
   have Lw14 := Mv14.low O12.low hB.size
   have O5 := O5.chgS e91 (fun hS_ => hS_.elim ((O11.apart_type O5 (by decide))).inb (fun hS_ => hS_.elim ((O12.apart_type O5 (by decide))).inb (N5_8)))
   have hB := Chg.ext hB e91 (fun g => (fun hS_ => hS_.elim (O11.low g) (fun hS_ => hS_.elim (O12.low g) ((box_low L8) g))))
   have O8 := Q8
   have O13 := Q13.lift Lw13
   have O14 := Q14.lift Lw14
   refine ⟨r87.1, rfl, ?_⟩
   refine brc H (fun hc101 H => ?_) (fun hc101 H => ?_)
   ·obtain ⟨m96, hm97, hJ98⟩ := H
    exact ⟨m96, hm97, (IntKind.wrap .i64 (i74 + 1)), r87.2.Number, r87.2.Frames, r87.2.Regs, A92, c93, A94, c95, rfl, hJ98, hB, O8, O13, O14, O5⟩
   refine ⟨_, (O8.at 0 rfl rfl), _, _, _, (O8.at 1 rfl rfl), _, _, _, (O8.at 2 rfl rfl), ?_⟩
   refine stBlk O5 (o := 0) (cs' := #[(.int .i64 r87.2.Number), (.slice A92 r87.2.Frames.length c93), (.slice A94 r87.2.Regs.length c95)]) rfl rfl (Nat.le_of_ble_eq_true rfl) rfl (fun w99 P5 e100 => ?_)
   have O8_ := O8.chg e100 (N5_8).symm
   have O13_ := O13.chg e100 (O13.apart_type O5 (by decide))
   have O14_ := O14.chg e100 (O14.apart_type O5 (by decide))
   have O8 := O8_
   have O13 := O13_
   have O14 := O14_
   have hB := echg hB e100 L5
   have O5 := P5
   refine ⟨_, (O5.at 0 rfl rfl), _, _, _, (O5.at 1 rfl rfl), _, _, _, (O5.at 2 rfl rfl), ?_⟩
   obtain rfl := hr.trans H.symm
   exact ⟨A92, c93, A94, c95, rfl, O13, O14, hB⟩
  refine ⟨_, (O8.at 0 rfl rfl), _, _, _, (O8.at 1 rfl rfl), _, _, _, (O8.at 2 rfl rfl), ?_⟩
  refine stBlk O5 (o := 0) (cs' := #[(.int .i64 i75), (.slice A77 xs76.length c78), (.slice A80 xs79.length c81)]) rfl rfl (Nat.le_of_ble_eq_true rfl) rfl (fun w102 P5 e103 => ?_)
  have O8_ := O8.chg e103 (N5_8).symm
  have O11_ := O11.chg e103 (O11.apart_type O5 (by decide))
  have O12_ := O12.chg e103 (O12.apart_type O5 (by decide))
  have O8 := O8_
  have O11 := O11_
  have O12 := O12_
  have hB := echg hB e103 L5
  have O5 := P5
  refine ⟨_, (O5.at 0 rfl rfl), _, _, _, (O5.at 1 rfl rfl), _, _, _, (O5.at 2 rfl rfl), ?_⟩
  obtain rfl := hr.trans H.symm
  exact ⟨A77, c78, A80, c81, rfl, O11, O12, hB⟩
def impl_WarpResult.vc (A0 : Option Addr) (n0 : Nat) (c0 : Nat) (x1 : Int) (w : World) (K : Value → World → Prop) : Prop :=
  newK w (.cells #[(.int .i64 0), (.slice none 0 0), (.slice none 0 0)] 29) fun g21 w22 => Cll Tryz.prog 27 #[(.slice A0 n0 c0)] w22 fun v24 w25 => (∃ (b26 : Bool), v24 = (.bool b26) ∧ bcase (!b26) (stCells (⟨g21, 0, none⟩ : Addr) [(.int .i64 0), (.slice none 0 0), (.slice none 0 0)] 0 w25 fun w27 => ∃ (n28 : Int), w27.cell? ((⟨g21, 0, none⟩ : Addr).add 0) = some (.int .i64 n28) ∧ ∃ (A29 : Option Addr) (n30 : Nat) (c31 : Nat), w27.cell? ((⟨g21, 0, none⟩ : Addr).add 1) = some (.slice A29 n30 c31) ∧ ∃ (A32 : Option Addr) (n33 : Nat) (c34 : Nat), w27.cell? ((⟨g21, 0, none⟩ : Addr).add 2) = some (.slice A32 n33 c34) ∧ K (.tuple #[(.agg #[(.int .i64 n28), (.slice A29 n30 c31), (.slice A32 n33 c34)]), (.int .i64 0), (.bool false)]) w27) (Cll Tryz.prog 55 #[(.int .i64 x1)] w25 fun v35 w36 => (∃ (b37 : Bool), v35 = (.bool b37) ∧ bcase (!b37) (stCells (⟨g21, 0, none⟩ : Addr) [(.int .i64 0), (.slice none 0 0), (.slice none 0 0)] 0 w36 fun w38 => ∃ (n39 : Int), w38.cell? ((⟨g21, 0, none⟩ : Addr).add 0) = some (.int .i64 n39) ∧ ∃ (A40 : Option Addr) (n41 : Nat) (c42 : Nat), w38.cell? ((⟨g21, 0, none⟩ : Addr).add 1) = some (.slice A40 n41 c42) ∧ ∃ (A43 : Option Addr) (n44 : Nat) (c45 : Nat), w38.cell? ((⟨g21, 0, none⟩ : Addr).add 2) = some (.slice A43 n44 c45) ∧ K (.tuple #[(.agg #[(.int .i64 n39), (.slice A40 n41 c42), (.slice A43 n44 c45)]), (.int .i64 0), (.bool false)]) w38) (Cll Tryz.prog 57 #[(.slice A0 n0 c0), (.int .i64 x1)] w36 fun v46 w47 => (∃ (n48 : Int), True ∧ ∃ (A49 : Option Addr) (n50 : Nat) (c51 : Nat), True ∧ ∃ (A52 : Option Addr) (n53 : Nat) (c54 : Nat), True ∧ v46 = (.agg #[(.int .i64 n48), (.slice A49 n50 c51), (.slice A52 n53 c54)]) ∧ Cll Tryz.prog 56 #[(.slice A0 n0 c0), (.agg #[(.int .i64 n48), (.slice A49 n50 c51), (.slice A52 n53 c54)]), (.int .i64 8000)] w47 fun v55 w56 => (∃ u57 : Value, (∃ (n58 : Int), True ∧ ∃ (A59 : Option Addr) (n60 : Nat) (c61 : Nat), True ∧ ∃ (A62 : Option Addr) (n63 : Nat) (c64 : Nat), True ∧ u57 = (.agg #[(.int .i64 n58), (.slice A59 n60 c61), (.slice A62 n63 c64)]) ∧ ∃ u65 : Value, (∃ (n66 : Int), u65 = (.int .i64 n66) ∧ v55 = (.tuple #[(.agg #[(.int .i64 n58), (.slice A59 n60 c61), (.slice A62 n63 c64)]), (.int .i64 n66)]) ∧ newK w56 (.cells #[(.int .i64 0), (.slice none 0 0), (.slice none 0 0)] 29) fun g67 w68 => stCells (⟨g67, 0, none⟩ : Addr) [(.int .i64 n58), (.slice A59 n60 c61), (.slice A62 n63 c64)] 0 w68 fun w69 => ∃ (A70 : Option Addr) (n71 : Nat) (c72 : Nat), w69.cell? (((⟨g67, 0, none⟩ : Addr).add 1).add 0) = some (.slice A70 n71 c72) ∧ bcase (decide (((n71 : Nat) : Int) > 0)) (stCells (⟨g21, 0, none⟩ : Addr) [(.int .i64 0), (.slice none 0 0), (.slice none 0 0)] 0 w69 fun w73 => ∃ (n74 : Int), w73.cell? ((⟨g21, 0, none⟩ : Addr).add 0) = some (.int .i64 n74) ∧ ∃ (A75 : Option Addr) (n76 : Nat) (c77 : Nat), w73.cell? ((⟨g21, 0, none⟩ : Addr).add 1) = some (.slice A75 n76 c77) ∧ ∃ (A78 : Option Addr) (n79 : Nat) (c80 : Nat), w73.cell? ((⟨g21, 0, none⟩ : Addr).add 2) = some (.slice A78 n79 c80) ∧ K (.tuple #[(.agg #[(.int .i64 n74), (.slice A75 n76 c77), (.slice A78 n79 c80)]), (.int .i64 0), (.bool false)]) w73) (∃ (n81 : Int), w69.cell? ((⟨g67, 0, none⟩ : Addr).add 0) = some (.int .i64 n81) ∧ ∃ (A82 : Option Addr) (n83 : Nat) (c84 : Nat), w69.cell? ((⟨g67, 0, none⟩ : Addr).add 1) = some (.slice A82 n83 c84) ∧ ∃ (A85 : Option Addr) (n86 : Nat) (c87 : Nat), w69.cell? ((⟨g67, 0, none⟩ : Addr).add 2) = some (.slice A85 n86 c87) ∧ stCells (⟨g21, 0, none⟩ : Addr) [(.int .i64 n81), (.slice A82 n83 c84), (.slice A85 n86 c87)] 0 w69 fun w88 => ∃ (n89 : Int), w88.cell? ((⟨g21, 0, none⟩ : Addr).add 0) = some (.int .i64 n89) ∧ ∃ (A90 : Option Addr) (n91 : Nat) (c92 : Nat), w88.cell? ((⟨g21, 0, none⟩ : Addr).add 1) = some (.slice A90 n91 c92) ∧ ∃ (A93 : Option Addr) (n94 : Nat) (c95 : Nat), w88.cell? ((⟨g21, 0, none⟩ : Addr).add 2) = some (.slice A93 n94 c95) ∧ K (.tuple #[(.agg #[(.int .i64 n89), (.slice A90 n91 c92), (.slice A93 n94 c95)]), (.int .i64 n66), (.bool true)]) w88)))))))))

def impl_WarpResult.ann : Ann := (.seq .l (.seq (.seq .l (.two (.seq .l .l) .l)) (.seq .l (.seq (.seq .l (.two (.seq .l .l) .l)) (.seq .l .l)))))

theorem impl_WarpResult.con {xs0 : List D.Ins} {A0 : Option Addr} {c0 : Nat} {x1 : Int} {r : D.Warp × Int × Bool} {w : World} (hp : M.impl_WarpResult_pre xs0 x1) (hr : r = M.impl_WarpResult xs0 x1) (R0 : Row el91 w A0 xs0) (hc0 : xs0.length ≤ c0) :
    Cll Tryz.prog 14 #[(.slice A0 xs0.length c0), (.int .i64 x1)] w (fun v_ w_ => ∃ (A0_ : Option Addr) (c0_ : Nat) (A1_ : Option Addr) (c1_ : Nat), v_ = (.tuple #[(.agg #[(.int .i64 r.1.Number), (.slice A0_ r.1.Frames.length c0_), (.slice A1_ r.1.Regs.length c1_)]), (.int .i64 r.2.1), (.bool r.2.2)]) ∧ Own el105 w_ w.heap.size A0_ c0_ r.1.Frames ∧ Own el3 w_ w.heap.size A1_ c1_ r.1.Regs ∧ Ext w w_) := by
  have H := wp.impl_WarpResult.math xs0 x1 hp
  have hB := Ext.refl w
  refine beginF mixed (fn := Tryz.f14) (by kernel_rfl) (by kernel_rfl) (an := impl_WarpResult.ann) (V := impl_WarpResult.vc A0 xs0.length c0 x1) (by kernel_rfl) ?_
  unfold impl_WarpResult.vc
  unfold wp.impl_WarpResult at H
  refine newBlk (fun g2_ w21 L2 P2 e22 => ?_)
  have O2 := P2
  have L2 := Nat.le_trans hB.size L2
  have hB := ethen hB e22
  obtain ⟨hp25, H⟩ := H
  obtain ⟨r23, hr24, H⟩ := callO H
  refine (impl_IsQuiet.con hp25 hr24 (R0.ext hB) hc0).mono ?_
  rintro _ w26 ⟨rfl, e27⟩
  have O2 := O2.ext e27
  have hB := ethen hB e27
  refine ⟨r23, rfl, ?_⟩
  refine brc H (fun hc65 H => ?_) (fun hc65 H => ?_)
  ·refine stBlk O2 (o := 0) (cs' := #[(.int .i64 0), (.slice none 0 0), (.slice none 0 0)]) rfl rfl (Nat.le_of_ble_eq_true rfl) rfl (fun w28 P2 e29 => ?_)
   have hB := echg hB e29 L2
   have O2 := P2
   refine ⟨_, (O2.at 0 rfl rfl), _, _, _, (O2.at 1 rfl rfl), _, _, _, (O2.at 2 rfl rfl), ?_⟩
   obtain rfl := hr.trans H.symm
   exact ⟨none, 0, none, 0, rfl, Own.nil, Own.nil, hB⟩
  obtain ⟨r30, hr31, H⟩ := callO H
  refine (impl_isWarpNumber.con hr31 ).mono ?_
  rintro _ w33 ⟨rfl, e34⟩
  have O2 := O2.ext e34
  have hB := ethen hB e34
  refine ⟨r30, rfl, ?_⟩
  refine brc H (fun hc64 H => ?_) (fun hc64 H => ?_)
  ·refine stBlk O2 (o := 0) (cs' := #[(.int .i64 0), (.slice none 0 0), (.slice none 0 0)]) rfl rfl (Nat.le_of_ble_eq_true rfl) rfl (fun w35 P2 e36 => ?_)
   have hB := echg hB e36 L2
   have O2 := P2
   refine ⟨_, (O2.at 0 rfl rfl), _, _, _, (O2.at 1 rfl rfl), _, _, _, (O2.at 2 rfl rfl), ?_⟩
   obtain rfl := hr.trans H.symm
   exact ⟨none, 0, none, 0, rfl, Own.nil, Own.nil, hB⟩
  obtain ⟨hp39, H⟩ := H
  obtain ⟨r37, hr38, H⟩ := callO H
  refine (impl_newWarp.con hp39 hr38 (R0.ext hB) hc0).mono ?_
  rintro _ w40 ⟨A42, c43, A44, c45, rfl, P3, P4, e41⟩
  have N3_2 := P3.apart_old O2.lt
  have N4_2 := P4.apart_old O2.lt
  have O2 := O2.ext e41
  have O3 := P3.mono hB.size
  have O4 := P4.mono hB.size
  have hB := ethen hB e41
  refine ⟨r37.Number, trivial, A42, r37.Frames.length, c43, trivial, A44, r37.Regs.length, c45, trivial, rfl, ?_⟩
  obtain ⟨hp48, H⟩ := H
  obtain ⟨r46, hr47, H⟩ := callO H
  refine (impl_RunWarp.con hp48 hr47 (R0.ext hB) hc0 O3.row O3.le O4.row O4.le).mono ?_
  rintro _ w49 ⟨A51, c52, A53, c54, rfl, P5, P6, e50⟩
  have N5_2 := P5.apart_old O2.lt
  have N3_5 := Own.apart2_new O3 P5 (Nat.le_refl _)
  have N4_5 := Own.apart2_new O4 P5 (Nat.le_refl _)
  have N6_2 := P6.apart_old O2.lt
  have N3_6 := Own.apart2_new O3 P6 (Nat.le_refl _)
  have N4_6 := Own.apart2_new O4 P6 (Nat.le_refl _)
  have O2 := O2.ext e50
  have O3 := O3.ext e50
  have O4 := O4.ext e50
  have O5 := P5.mono hB.size
  have O6 := P6.mono hB.size
  have hB := ethen hB e50
  refine ⟨(.agg #[(.int .i64 r46.1.Number), (.slice A51 r46.1.Frames.length c52), (.slice A53 r46.1.Regs.length c54)]), r46.1.Number, trivial, A51, r46.1.Frames.length, c52, trivial, A53, r46.1.Regs.length, c54, trivial, rfl, (.int .i64 r46.2), r46.2, rfl, rfl, ?_⟩
  refine newBlk (fun g7_ w55 L7 P7 e56 => ?_)
  have N2_7 := O2.ne L7
  have N3_7 := O3.apart_new L7
  have N4_7 := O4.apart_new L7
  have N5_7 := O5.apart_new L7
  have N6_7 := O6.apart_new L7
  have O2 := O2.ext e56
  have O3 := O3.ext e56
  have O4 := O4.ext e56
  have O5 := O5.ext e56
  have O6 := O6.ext e56
  have O7 := P7
  have L7 := Nat.le_trans hB.size L7
  have hB := ethen hB e56
  refine stBlk O7 (o := 0) (cs' := #[(.int .i64 r46.1.Number), (.slice A51 r46.1.Frames.length c52), (.slice A53 r46.1.Regs.length c54)]) rfl rfl (Nat.le_of_ble_eq_true rfl) rfl (fun w57 P7 e58 => ?_)
  have O2_ := O2.chg e58 N2_7
  have O3_ := O3.chg e58 N3_7
  have O4_ := O4.chg e58 N4_7
  have O5_ := O5.chg e58 N5_7
  have O6_ := O6.chg e58 N6_7
  have O2 := O2_
  have O3 := O3_
  have O4 := O4_
  have O5 := O5_
  have O6 := O6_
  have hB := echg hB e58 L7
  have O7 := P7
  refine ⟨_, _, _, (O7.at 1 rfl rfl), ?_⟩
  refine brc H (fun hc63 H => ?_) (fun hc63 H => ?_)
  ·refine stBlk O2 (o := 0) (cs' := #[(.int .i64 0), (.slice none 0 0), (.slice none 0 0)]) rfl rfl (Nat.le_of_ble_eq_true rfl) rfl (fun w59 P2 e60 => ?_)
   have O5_ := O5.chg e60 N5_2
   have O6_ := O6.chg e60 N6_2
   have O7_ := O7.chg e60 (N2_7).symm
   have O5 := O5_
   have O6 := O6_
   have O7 := O7_
   have hB := echg hB e60 L2
   have O2 := P2
   refine ⟨_, (O2.at 0 rfl rfl), _, _, _, (O2.at 1 rfl rfl), _, _, _, (O2.at 2 rfl rfl), ?_⟩
   obtain rfl := hr.trans H.symm
   exact ⟨none, 0, none, 0, rfl, Own.nil, Own.nil, hB⟩
  refine ⟨_, (O7.at 0 rfl rfl), _, _, _, (O7.at 1 rfl rfl), _, _, _, (O7.at 2 rfl rfl), ?_⟩
  refine stBlk O2 (o := 0) (cs' := #[(.int .i64 r46.1.Number), (.slice A51 r46.1.Frames.length c52), (.slice A53 r46.1.Regs.length c54)]) rfl rfl (Nat.le_of_ble_eq_true rfl) rfl (fun w61 P2 e62 => ?_)
  have O5_ := O5.chg e62 N5_2
  have O6_ := O6.chg e62 N6_2
  have O7_ := O7.chg e62 (N2_7).symm
  have O5 := O5_
  have O6 := O6_
  have O7 := O7_
  have hB := echg hB e62 L2
  have O2 := P2
  refine ⟨_, (O2.at 0 rfl rfl), _, _, _, (O2.at 1 rfl rfl), _, _, _, (O2.at 2 rfl rfl), ?_⟩
  obtain rfl := hr.trans H.symm
  exact ⟨A51, c52, A53, c54, rfl, O5, O6, hB⟩
def math_bits_OnesCount64.vc (x0 : Int) (w : World) (K : Value → World → Prop) : Prop :=
  ((0 : Int) ≤ 1 ∧ ((0 : Int) ≤ 2 ∧ ((0 : Int) ≤ 4 ∧ ((0 : Int) ≤ 8 ∧ ((0 : Int) ≤ 16 ∧ ((0 : Int) ≤ 32 ∧ K (.int .i64 (bitAnd .i64 (IntKind.wrap .i64 (IntKind.wrap .u64 ((IntKind.wrap .u64 ((IntKind.wrap .u64 ((bitAnd .u64 (IntKind.wrap .u64 ((Int.fdiv (IntKind.wrap .u64 ((bitAnd .u64 (Int.fdiv (IntKind.wrap .u64 ((bitAnd .u64 (Int.fdiv x0 (2 ^ (min ((1 : Int).toNat) (IntKind.bits .u64)))) 6148914691236517205) + (bitAnd .u64 x0 6148914691236517205))) (2 ^ (min ((2 : Int).toNat) (IntKind.bits .u64)))) 3689348814741910323) + (bitAnd .u64 (IntKind.wrap .u64 ((bitAnd .u64 (Int.fdiv x0 (2 ^ (min ((1 : Int).toNat) (IntKind.bits .u64)))) 6148914691236517205) + (bitAnd .u64 x0 6148914691236517205))) 3689348814741910323))) (2 ^ (min ((4 : Int).toNat) (IntKind.bits .u64)))) + (IntKind.wrap .u64 ((bitAnd .u64 (Int.fdiv (IntKind.wrap .u64 ((bitAnd .u64 (Int.fdiv x0 (2 ^ (min ((1 : Int).toNat) (IntKind.bits .u64)))) 6148914691236517205) + (bitAnd .u64 x0 6148914691236517205))) (2 ^ (min ((2 : Int).toNat) (IntKind.bits .u64)))) 3689348814741910323) + (bitAnd .u64 (IntKind.wrap .u64 ((bitAnd .u64 (Int.fdiv x0 (2 ^ (min ((1 : Int).toNat) (IntKind.bits .u64)))) 6148914691236517205) + (bitAnd .u64 x0 6148914691236517205))) 3689348814741910323))))) 1085102592571150095) + (Int.fdiv (bitAnd .u64 (IntKind.wrap .u64 ((Int.fdiv (IntKind.wrap .u64 ((bitAnd .u64 (Int.fdiv (IntKind.wrap .u64 ((bitAnd .u64 (Int.fdiv x0 (2 ^ (min ((1 : Int).toNat) (IntKind.bits .u64)))) 6148914691236517205) + (bitAnd .u64 x0 6148914691236517205))) (2 ^ (min ((2 : Int).toNat) (IntKind.bits .u64)))) 3689348814741910323) + (bitAnd .u64 (IntKind.wrap .u64 ((bitAnd .u64 (Int.fdiv x0 (2 ^ (min ((1 : Int).toNat) (IntKind.bits .u64)))) 6148914691236517205) + (bitAnd .u64 x0 6148914691236517205))) 3689348814741910323))) (2 ^ (min ((4 : Int).toNat) (IntKind.bits .u64)))) + (IntKind.wrap .u64 ((bitAnd .u64 (Int.fdiv (IntKind.wrap .u64 ((bitAnd .u64 (Int.fdiv x0 (2 ^ (min ((1 : Int).toNat) (IntKind.bits .u64)))) 6148914691236517205) + (bitAnd .u64 x0 6148914691236517205))) (2 ^ (min ((2 : Int).toNat) (IntKind.bits .u64)))) 3689348814741910323) + (bitAnd .u64 (IntKind.wrap .u64 ((bitAnd .u64 (Int.fdiv x0 (2 ^ (min ((1 : Int).toNat) (IntKind.bits .u64)))) 6148914691236517205) + (bitAnd .u64 x0 6148914691236517205))) 3689348814741910323))))) 1085102592571150095) (2 ^ (min ((8 : Int).toNat) (IntKind.bits .u64)))))) + (Int.fdiv (IntKind.wrap .u64 ((bitAnd .u64 (IntKind.wrap .u64 ((Int.fdiv (IntKind.wrap .u64 ((bitAnd .u64 (Int.fdiv (IntKind.wrap .u64 ((bitAnd .u64 (Int.fdiv x0 (2 ^ (min ((1 : Int).toNat) (IntKind.bits .u64)))) 6148914691236517205) + (bitAnd .u64 x0 6148914691236517205))) (2 ^ (min ((2 : Int).toNat) (IntKind.bits .u64)))) 3689348814741910323) + (bitAnd .u64 (IntKind.wrap .u64 ((bitAnd .u64 (Int.fdiv x0 (2 ^ (min ((1 : Int).toNat) (IntKind.bits .u64)))) 6148914691236517205) + (bitAnd .u64 x0 6148914691236517205))) 3689348814741910323))) (2 ^ (min ((4 : Int).toNat) (IntKind.bits .u64)))) + (IntKind.wrap .u64 ((bitAnd .u64 (Int.fdiv (IntKind.wrap .u64 ((bitAnd .u64 (Int.fdiv x0 (2 ^ (min ((1 : Int).toNat) (IntKind.bits .u64)))) 6148914691236517205) + (bitAnd .u64 x0 6148914691236517205))) (2 ^ (min ((2 : Int).toNat) (IntKind.bits .u64)))) 3689348814741910323) + (bitAnd .u64 (IntKind.wrap .u64 ((bitAnd .u64 (Int.fdiv x0 (2 ^ (min ((1 : Int).toNat) (IntKind.bits .u64)))) 6148914691236517205) + (bitAnd .u64 x0 6148914691236517205))) 3689348814741910323))))) 1085102592571150095) + (Int.fdiv (bitAnd .u64 (IntKind.wrap .u64 ((Int.fdiv (IntKind.wrap .u64 ((bitAnd .u64 (Int.fdiv (IntKind.wrap .u64 ((bitAnd .u64 (Int.fdiv x0 (2 ^ (min ((1 : Int).toNat) (IntKind.bits .u64)))) 6148914691236517205) + (bitAnd .u64 x0 6148914691236517205))) (2 ^ (min ((2 : Int).toNat) (IntKind.bits .u64)))) 3689348814741910323) + (bitAnd .u64 (IntKind.wrap .u64 ((bitAnd .u64 (Int.fdiv x0 (2 ^ (min ((1 : Int).toNat) (IntKind.bits .u64)))) 6148914691236517205) + (bitAnd .u64 x0 6148914691236517205))) 3689348814741910323))) (2 ^ (min ((4 : Int).toNat) (IntKind.bits .u64)))) + (IntKind.wrap .u64 ((bitAnd .u64 (Int.fdiv (IntKind.wrap .u64 ((bitAnd .u64 (Int.fdiv x0 (2 ^ (min ((1 : Int).toNat) (IntKind.bits .u64)))) 6148914691236517205) + (bitAnd .u64 x0 6148914691236517205))) (2 ^ (min ((2 : Int).toNat) (IntKind.bits .u64)))) 3689348814741910323) + (bitAnd .u64 (IntKind.wrap .u64 ((bitAnd .u64 (Int.fdiv x0 (2 ^ (min ((1 : Int).toNat) (IntKind.bits .u64)))) 6148914691236517205) + (bitAnd .u64 x0 6148914691236517205))) 3689348814741910323))))) 1085102592571150095) (2 ^ (min ((8 : Int).toNat) (IntKind.bits .u64)))))) (2 ^ (min ((16 : Int).toNat) (IntKind.bits .u64)))))) + (Int.fdiv (IntKind.wrap .u64 ((IntKind.wrap .u64 ((bitAnd .u64 (IntKind.wrap .u64 ((Int.fdiv (IntKind.wrap .u64 ((bitAnd .u64 (Int.fdiv (IntKind.wrap .u64 ((bitAnd .u64 (Int.fdiv x0 (2 ^ (min ((1 : Int).toNat) (IntKind.bits .u64)))) 6148914691236517205) + (bitAnd .u64 x0 6148914691236517205))) (2 ^ (min ((2 : Int).toNat) (IntKind.bits .u64)))) 3689348814741910323) + (bitAnd .u64 (IntKind.wrap .u64 ((bitAnd .u64 (Int.fdiv x0 (2 ^ (min ((1 : Int).toNat) (IntKind.bits .u64)))) 6148914691236517205) + (bitAnd .u64 x0 6148914691236517205))) 3689348814741910323))) (2 ^ (min ((4 : Int).toNat) (IntKind.bits .u64)))) + (IntKind.wrap .u64 ((bitAnd .u64 (Int.fdiv (IntKind.wrap .u64 ((bitAnd .u64 (Int.fdiv x0 (2 ^ (min ((1 : Int).toNat) (IntKind.bits .u64)))) 6148914691236517205) + (bitAnd .u64 x0 6148914691236517205))) (2 ^ (min ((2 : Int).toNat) (IntKind.bits .u64)))) 3689348814741910323) + (bitAnd .u64 (IntKind.wrap .u64 ((bitAnd .u64 (Int.fdiv x0 (2 ^ (min ((1 : Int).toNat) (IntKind.bits .u64)))) 6148914691236517205) + (bitAnd .u64 x0 6148914691236517205))) 3689348814741910323))))) 1085102592571150095) + (Int.fdiv (bitAnd .u64 (IntKind.wrap .u64 ((Int.fdiv (IntKind.wrap .u64 ((bitAnd .u64 (Int.fdiv (IntKind.wrap .u64 ((bitAnd .u64 (Int.fdiv x0 (2 ^ (min ((1 : Int).toNat) (IntKind.bits .u64)))) 6148914691236517205) + (bitAnd .u64 x0 6148914691236517205))) (2 ^ (min ((2 : Int).toNat) (IntKind.bits .u64)))) 3689348814741910323) + (bitAnd .u64 (IntKind.wrap .u64 ((bitAnd .u64 (Int.fdiv x0 (2 ^ (min ((1 : Int).toNat) (IntKind.bits .u64)))) 6148914691236517205) + (bitAnd .u64 x0 6148914691236517205))) 3689348814741910323))) (2 ^ (min ((4 : Int).toNat) (IntKind.bits .u64)))) + (IntKind.wrap .u64 ((bitAnd .u64 (Int.fdiv (IntKind.wrap .u64 ((bitAnd .u64 (Int.fdiv x0 (2 ^ (min ((1 : Int).toNat) (IntKind.bits .u64)))) 6148914691236517205) + (bitAnd .u64 x0 6148914691236517205))) (2 ^ (min ((2 : Int).toNat) (IntKind.bits .u64)))) 3689348814741910323) + (bitAnd .u64 (IntKind.wrap .u64 ((bitAnd .u64 (Int.fdiv x0 (2 ^ (min ((1 : Int).toNat) (IntKind.bits .u64)))) 6148914691236517205) + (bitAnd .u64 x0 6148914691236517205))) 3689348814741910323))))) 1085102592571150095) (2 ^ (min ((8 : Int).toNat) (IntKind.bits .u64)))))) + (Int.fdiv (IntKind.wrap .u64 ((bitAnd .u64 (IntKind.wrap .u64 ((Int.fdiv (IntKind.wrap .u64 ((bitAnd .u64 (Int.fdiv (IntKind.wrap .u64 ((bitAnd .u64 (Int.fdiv x0 (2 ^ (min ((1 : Int).toNat) (IntKind.bits .u64)))) 6148914691236517205) + (bitAnd .u64 x0 6148914691236517205))) (2 ^ (min ((2 : Int).toNat) (IntKind.bits .u64)))) 3689348814741910323) + (bitAnd .u64 (IntKind.wrap .u64 ((bitAnd .u64 (Int.fdiv x0 (2 ^ (min ((1 : Int).toNat) (IntKind.bits .u64)))) 6148914691236517205) + (bitAnd .u64 x0 6148914691236517205))) 3689348814741910323))) (2 ^ (min ((4 : Int).toNat) (IntKind.bits .u64)))) + (IntKind.wrap .u64 ((bitAnd .u64 (Int.fdiv (IntKind.wrap .u64 ((bitAnd .u64 (Int.fdiv x0 (2 ^ (min ((1 : Int).toNat) (IntKind.bits .u64)))) 6148914691236517205) + (bitAnd .u64 x0 6148914691236517205))) (2 ^ (min ((2 : Int).toNat) (IntKind.bits .u64)))) 3689348814741910323) + (bitAnd .u64 (IntKind.wrap .u64 ((bitAnd .u64 (Int.fdiv x0 (2 ^ (min ((1 : Int).toNat) (IntKind.bits .u64)))) 6148914691236517205) + (bitAnd .u64 x0 6148914691236517205))) 3689348814741910323))))) 1085102592571150095) + (Int.fdiv (bitAnd .u64 (IntKind.wrap .u64 ((Int.fdiv (IntKind.wrap .u64 ((bitAnd .u64 (Int.fdiv (IntKind.wrap .u64 ((bitAnd .u64 (Int.fdiv x0 (2 ^ (min ((1 : Int).toNat) (IntKind.bits .u64)))) 6148914691236517205) + (bitAnd .u64 x0 6148914691236517205))) (2 ^ (min ((2 : Int).toNat) (IntKind.bits .u64)))) 3689348814741910323) + (bitAnd .u64 (IntKind.wrap .u64 ((bitAnd .u64 (Int.fdiv x0 (2 ^ (min ((1 : Int).toNat) (IntKind.bits .u64)))) 6148914691236517205) + (bitAnd .u64 x0 6148914691236517205))) 3689348814741910323))) (2 ^ (min ((4 : Int).toNat) (IntKind.bits .u64)))) + (IntKind.wrap .u64 ((bitAnd .u64 (Int.fdiv (IntKind.wrap .u64 ((bitAnd .u64 (Int.fdiv x0 (2 ^ (min ((1 : Int).toNat) (IntKind.bits .u64)))) 6148914691236517205) + (bitAnd .u64 x0 6148914691236517205))) (2 ^ (min ((2 : Int).toNat) (IntKind.bits .u64)))) 3689348814741910323) + (bitAnd .u64 (IntKind.wrap .u64 ((bitAnd .u64 (Int.fdiv x0 (2 ^ (min ((1 : Int).toNat) (IntKind.bits .u64)))) 6148914691236517205) + (bitAnd .u64 x0 6148914691236517205))) 3689348814741910323))))) 1085102592571150095) (2 ^ (min ((8 : Int).toNat) (IntKind.bits .u64)))))) (2 ^ (min ((16 : Int).toNat) (IntKind.bits .u64)))))) (2 ^ (min ((32 : Int).toNat) (IntKind.bits .u64))))))) 127)) w))))))

def math_bits_OnesCount64.ann : Ann := (.seq .l (.seq .l (.seq .l (.seq .l (.seq .l (.seq .l (.seq .l (.seq .l .l))))))))

theorem math_bits_OnesCount64.con {x0 : Int} {r : Int} {w : World} (hp : M.math_bits_OnesCount64_pre x0) (hr : r = M.math_bits_OnesCount64 x0)  :
    Cll Tryz.prog 167 #[(.int .u64 x0)] w (fun v_ w_ => v_ = (.int .i64 r) ∧ Ext w w_) := by
  have H := wp.math_bits_OnesCount64.math x0 hp
  have hB := Ext.refl w
  refine beginF mixed (fn := Tryz.f167) (by kernel_rfl) (by kernel_rfl) (an := math_bits_OnesCount64.ann) (V := math_bits_OnesCount64.vc x0) (by kernel_rfl) ?_
  unfold math_bits_OnesCount64.vc
  unfold wp.math_bits_OnesCount64 at H
  refine ⟨by decide, by decide, by decide, by decide, by decide, by decide, ?_⟩
  obtain rfl := hr.trans H.symm
  exact ⟨rfl, hB⟩
def math_bits_OnesCount.vc (x0 : Int) (w : World) (K : Value → World → Prop) : Prop :=
  Cll Tryz.prog 167 #[(.int .u64 x0)] w fun v21 w22 => (∃ (n23 : Int), v21 = (.int .i64 n23) ∧ K (.int .i64 n23) w22)

def math_bits_OnesCount.ann : Ann := (.seq .l (.seq (.two (.seq .l .l) .l) (.seq .l .l)))

theorem math_bits_OnesCount.con {x0 : Int} {r : Int} {w : World} (hp : M.math_bits_OnesCount_pre x0) (hr : r = M.math_bits_OnesCount x0)  :
    Cll Tryz.prog 122 #[(.int .u64 x0)] w (fun v_ w_ => v_ = (.int .i64 r) ∧ Ext w w_) := by
  have H := wp.math_bits_OnesCount.math x0 hp
  have hB := Ext.refl w
  refine beginF mixed (fn := Tryz.f122) (by kernel_rfl) (by kernel_rfl) (an := math_bits_OnesCount.ann) (V := math_bits_OnesCount.vc x0) (by kernel_rfl) ?_
  unfold math_bits_OnesCount.vc
  unfold wp.math_bits_OnesCount at H
  obtain ⟨hp23, H⟩ := H
  obtain ⟨r21, hr22, H⟩ := callO H
  refine (math_bits_OnesCount64.con hp23 hr22 ).mono ?_
  rintro _ w24 ⟨rfl, e25⟩
  have hB := ethen hB e25
  refine ⟨r21, rfl, ?_⟩
  obtain rfl := hr.trans H.symm
  exact ⟨rfl, hB⟩
def impl_CountLanes.vc (x0 : Int) (w : World) (K : Value → World → Prop) : Prop :=
  Cll Tryz.prog 121 #[(.int .i64 x0)] w fun v21 w22 => (∃ (b23 : Bool), v21 = (.bool b23) ∧ bcase (!b23) (K (.int .i64 (-1)) w22) (Cll Tryz.prog 122 #[(.int .u64 (IntKind.wrap .u64 x0))] w22 fun v24 w25 => (∃ (n26 : Int), v24 = (.int .i64 n26) ∧ K (.int .i64 n26) w25)))

def impl_CountLanes.ann : Ann := (.seq .l (.seq (.seq .l (.two (.seq .l .l) .l)) (.seq .l .l)))

theorem impl_CountLanes.con {x0 : Int} {r : Int} {w : World} (hp : M.impl_CountLanes_pre x0) (hr : r = M.impl_CountLanes x0)  :
    Cll Tryz.prog 67 #[(.int .i64 x0)] w (fun v_ w_ => v_ = (.int .i64 r) ∧ Ext w w_) := by
  have H := wp.impl_CountLanes.math x0 hp
  have hB := Ext.refl w
  refine beginF mixed (fn := Tryz.f67) (by kernel_rfl) (by kernel_rfl) (an := impl_CountLanes.ann) (V := impl_CountLanes.vc x0) (by kernel_rfl) ?_
  unfold impl_CountLanes.vc
  unfold wp.impl_CountLanes at H
  obtain ⟨r21, hr22, H⟩ := callO H
  refine (impl_IsMask.con hr22 ).mono ?_
  rintro _ w24 ⟨rfl, e25⟩
  have hB := ethen hB e25
  refine ⟨r21, rfl, ?_⟩
  refine brc H (fun hc31 H => ?_) (fun hc31 H => ?_)
  ·obtain rfl := hr.trans H.symm
   exact ⟨rfl, hB⟩
  obtain ⟨hp28, H⟩ := H
  obtain ⟨r26, hr27, H⟩ := callO H
  refine (math_bits_OnesCount.con hp28 hr27 ).mono ?_
  rintro _ w29 ⟨rfl, e30⟩
  have hB := ethen hB e30
  refine ⟨r26, rfl, ?_⟩
  obtain rfl := hr.trans H.symm
  exact ⟨rfl, hB⟩
def impl_CostOf_1.vc (x0_0 : Int) (A0_1 : Option Addr) (n0_1 : Nat) (c0_1 : Nat) (A0_2 : Option Addr) (n0_2 : Nat) (c0_2 : Nat) (p1 : Addr) (p2 : Addr) (w : World) (K : Value → World → Prop) : Prop :=
  newK w (.cells #[(.int .i64 x0_0), (.slice A0_1 n0_1 c0_1), (.slice A0_2 n0_2 c0_2)] 29) fun g21 w22 => ∃ (A23 : Option Addr) (n24 : Nat) (c25 : Nat), w22.cell? (((⟨g21, 0, none⟩ : Addr).add 1).add 0) = some (.slice A23 n24 c25) ∧ bcase (((n24 : Nat) : Int) == 0) (K (.tuple #[]) w22) (∃ (n26 : Int), w22.cell? ((p1.add 0).add 0) = some (.int .i64 n26) ∧ stCells (p1.add 0) [(.int .i64 (IntKind.wrap .i64 (n26 + 1)))] 0 w22 fun w27 => (∃ M28 : Nat → Prop, ∃ (n29 : Int), (¬ M28 ((p1.add 1)).block ∧ w27.cell? ((p1.add 1).add 0) = some (.int .i64 n29)) ∧ ∃ (n30 : Int), (¬ M28 ((⟨g21, 0, none⟩ : Addr)).block ∧ w27.cell? ((⟨g21, 0, none⟩ : Addr).add 0) = some (.int .i64 n30)) ∧ ∃ (A31 : Option Addr) (n32 : Nat) (c33 : Nat), (¬ M28 ((⟨g21, 0, none⟩ : Addr)).block ∧ w27.cell? ((⟨g21, 0, none⟩ : Addr).add 1) = some (.slice A31 n32 c33)) ∧ ∃ (A34 : Option Addr) (n35 : Nat) (c36 : Nat), (¬ M28 ((⟨g21, 0, none⟩ : Addr)).block ∧ w27.cell? ((⟨g21, 0, none⟩ : Addr).add 2) = some (.slice A34 n35 c36)) ∧ Cll Tryz.prog 68 #[(.agg #[(.int .i64 n30), (.slice A31 n32 c33), (.slice A34 n35 c36)])] w27.drew fun v37 w38 => (∃ (n39 : Int), v37 = (.int .i64 n39) ∧ SameBut M28 w27 w38 ∧ Cll Tryz.prog 67 #[(.int .i64 n39)] w38 fun v40 w41 => (∃ (n42 : Int), v40 = (.int .i64 n42) ∧ SameBut M28 w27 w41 ∧ stCells (p1.add 1) [(.int .i64 (IntKind.wrap .i64 (n29 + n42)))] 0 w41 fun w43 => ∃ (n44 : Int), w43.cell? ((⟨g21, 0, none⟩ : Addr).add 0) = some (.int .i64 n44) ∧ ∃ (A45 : Option Addr) (n46 : Nat) (c47 : Nat), w43.cell? ((⟨g21, 0, none⟩ : Addr).add 1) = some (.slice A45 n46 c47) ∧ ∃ (A48 : Option Addr) (n49 : Nat) (c50 : Nat), w43.cell? ((⟨g21, 0, none⟩ : Addr).add 2) = some (.slice A48 n49 c50) ∧ ∃ (A51 : Option Addr) (n52 : Nat) (c53 : Nat), w43.cell? (p2.add 0) = some (.slice A51 n52 c53) ∧ Cll Tryz.prog 69 #[(.agg #[(.int .i64 n44), (.slice A45 n46 c47), (.slice A48 n49 c50)]), (.slice A51 n52 c53)] w43 fun v54 w55 => (∃ (b56 : Bool), v54 = (.bool b56) ∧ bcase b56 (∃ (n57 : Int), w55.cell? ((p1.add 2).add 0) = some (.int .i64 n57) ∧ stCells (p1.add 2) [(.int .i64 (IntKind.wrap .i64 (n57 + 1)))] 0 w55 fun w58 => K (.tuple #[]) w58) (K (.tuple #[]) w55))))))

def impl_CostOf_1.ann : Ann := (.seq .l (.seq (.seq .l (.two .l .l)) (.seq .l (.seq .l (.seq .l (.two .l .l))))))

theorem impl_CostOf_1.con {s0 : D.Warp} {s1 : D.Cost} {xs2 : List D.Ins} {A0_1 : Option Addr} {c0_1 : Nat} {A0_2 : Option Addr} {c0_2 : Nat} {g3_ : Nat} {g4_ : Nat} {A2_0 : Option Addr} {c2_0 : Nat} {r : D.Cost} {w : World} (hp : M.impl_CostOf_1_pre s0 s1 xs2) (hr : r = M.impl_CostOf_1 s0 s1 xs2) (R0_1 : Row el105 w A0_1 s0.Frames) (hc0_1 : s0.Frames.length ≤ c0_1) (R0_2 : Row el3 w A0_2 s0.Regs) (hc0_2 : s0.Regs.length ≤ c0_2) (O3 : Blk w g3_ 39 #[(.int .i64 s1.Steps), (.int .i64 s1.Active), (.int .i64 s1.Splits)]) (O4 : Blk w g4_ 24 #[(.slice A2_0 xs2.length c2_0)]) (R2_0 : Row el91 w A2_0 xs2) (hc2_0 : xs2.length ≤ c2_0) (DB4 : ¬ (fun k_ => k_ = g3_) g4_) (D0_1 : s0.Frames ≠ [] → ∀ g, InB A0_1 g → ¬ (fun k_ => k_ = g3_) g) (D0_2 : s0.Regs ≠ [] → ∀ g, InB A0_2 g → ¬ (fun k_ => k_ = g3_) g) (D2_0 : xs2 ≠ [] → ∀ g, InB A2_0 g → ¬ (fun k_ => k_ = g3_) g) :
    Cll Tryz.prog 66 #[(.agg #[(.int .i64 s0.Number), (.slice A0_1 s0.Frames.length c0_1), (.slice A0_2 s0.Regs.length c0_2)]), (.pointer (some (⟨g3_, 0, none⟩ : Addr))), (.pointer (some (⟨g4_, 0, none⟩ : Addr)))] w (fun v_ w_ => v_ = (.tuple #[]) ∧ Blk w_ g3_ 39 #[(.int .i64 r.Steps), (.int .i64 r.Active), (.int .i64 r.Splits)] ∧ Chg (fun k_ => k_ = g3_) w w_) := by
  have H := wp.impl_CostOf_1.math s0 s1 xs2 hp
  have hB := Chg.refl (fun k_ => k_ = g3_) w
  refine beginF mixed (fn := Tryz.f66) (by kernel_rfl) (by kernel_rfl) (an := impl_CostOf_1.ann) (V := impl_CostOf_1.vc s0.Number A0_1 s0.Frames.length c0_1 A0_2 s0.Regs.length c0_2 (⟨g3_, 0, none⟩ : Addr) (⟨g4_, 0, none⟩ : Addr)) (by kernel_rfl) ?_
  unfold impl_CostOf_1.vc
  unfold wp.impl_CostOf_1 at H
  refine newBlk (fun g6_ w21 L6 P6 e22 => ?_)
  have N3_6 := O3.ne L6
  have N4_6 := O4.ne L6
  have O3 := O3.ext e22
  have O4 := O4.ext e22
  have O6 := P6
  have L6 := Nat.le_trans hB.size L6
  have hB := hB.then e22
  refine ⟨_, _, _, (O6.at 1 rfl rfl), ?_⟩
  refine brc H (fun hc46 H => ?_) (fun hc46 H => ?_)
  ·obtain rfl := hr.trans H.symm
   exact ⟨rfl, O3, hB⟩
  refine ⟨_, (O3.at 0 rfl rfl), ?_⟩
  refine stBlk O3 (o := 0) (cs' := #[(.int .i64 (IntKind.wrap .i64 (s1.Steps + 1))), (.int .i64 s1.Active), (.int .i64 s1.Splits)]) rfl rfl (Nat.le_of_ble_eq_true rfl) rfl (fun w23 P3 e24 => ?_)
  have O4_ := O4.chg e24 (fun h_ => DB4 h_)
  have O6_ := O6.chg e24 (N3_6).symm
  have O4 := O4_
  have O6 := O6_
  have hB := hB.chgb e24 (Or.inr rfl)
  have O3 := P3
  refine ⟨(fun _ => False), _, ⟨(fun h_ => h_), (O3.at 1 rfl rfl)⟩, _, ⟨(fun h_ => h_), (O6.at 0 rfl rfl)⟩, _, _, _, ⟨(fun h_ => h_), (O6.at 1 rfl rfl)⟩, _, _, _, ⟨(fun h_ => h_), (O6.at 2 rfl rfl)⟩, ?_⟩
  have hS25 := Chg.refl (fun _ => False) w23
  have O3 := O3.ext (Ext.drew _)
  have O4 := O4.ext (Ext.drew _)
  have O6 := O6.ext (Ext.drew _)
  have hB := hB.then (Ext.drew _)
  have hS25 := hS25.then (Ext.drew _)
  obtain ⟨hp28, H⟩ := H
  obtain ⟨r26, hr27, H⟩ := callO H
  refine (impl_ActiveMask.con hp28 hr27 (R0_1.chgS hB D0_1) hc0_1 (R0_2.chgS hB D0_2) hc0_2).mono ?_
  rintro _ w29 ⟨rfl, e30⟩
  have O3 := O3.ext e30
  have O4 := O4.ext e30
  have O6 := O6.ext e30
  have hB := hB.then e30
  have hS25 := hS25.then e30
  refine ⟨r26, rfl, sameBut_chg hS25, ?_⟩
  obtain ⟨hp33, H⟩ := H
  obtain ⟨r31, hr32, H⟩ := callO H
  refine (impl_CountLanes.con hp33 hr32 ).mono ?_
  rintro _ w34 ⟨rfl, e35⟩
  have O3 := O3.ext e35
  have O4 := O4.ext e35
  have O6 := O6.ext e35
  have hB := hB.then e35
  have hS25 := hS25.then e35
  refine ⟨r31, rfl, sameBut_chg hS25, ?_⟩
  refine stBlk O3 (o := 1) (cs' := #[(.int .i64 (IntKind.wrap .i64 (s1.Steps + 1))), (.int .i64 (IntKind.wrap .i64 (s1.Active + r31))), (.int .i64 s1.Splits)]) rfl rfl (Nat.le_of_ble_eq_true rfl) rfl (fun w36 P3 e37 => ?_)
  have O4_ := O4.chg e37 (fun h_ => DB4 h_)
  have O6_ := O6.chg e37 (N3_6).symm
  have O4 := O4_
  have O6 := O6_
  have hB := hB.chgb e37 (Or.inr rfl)
  have O3 := P3
  refine ⟨_, (O6.at 0 rfl rfl), _, _, _, (O6.at 1 rfl rfl), _, _, _, (O6.at 2 rfl rfl), _, _, _, (O4.at 0 rfl rfl), ?_⟩
  obtain ⟨hp40, H⟩ := H
  obtain ⟨r38, hr39, H⟩ := callO H
  refine (impl_Warp_splits.con hp40 hr39 (R0_1.chgS hB D0_1) hc0_1 (R0_2.chgS hB D0_2) hc0_2 (R2_0.chgS hB D2_0) hc2_0).mono ?_
  rintro _ w41 ⟨rfl, e42⟩
  have O3 := O3.ext e42
  have O4 := O4.ext e42
  have O6 := O6.ext e42
  have hB := hB.then e42
  refine ⟨r38, rfl, ?_⟩
  refine brc H (fun hc45 H => ?_) (fun hc45 H => ?_)
  ·refine ⟨_, (O3.at 2 rfl rfl), ?_⟩
   refine stBlk O3 (o := 2) (cs' := #[(.int .i64 (IntKind.wrap .i64 (s1.Steps + 1))), (.int .i64 (IntKind.wrap .i64 (s1.Active + r31))), (.int .i64 (IntKind.wrap .i64 (s1.Splits + 1)))]) rfl rfl (Nat.le_of_ble_eq_true rfl) rfl (fun w43 P3 e44 => ?_)
   have O4_ := O4.chg e44 (fun h_ => DB4 h_)
   have O4 := O4_
   have hB := hB.chgb e44 (Or.inr rfl)
   have O3 := P3
   obtain rfl := hr.trans H.symm
   exact ⟨rfl, O3, hB⟩
  obtain rfl := hr.trans H.symm
  exact ⟨rfl, O3, hB⟩
def impl_visit_b.vc (A0 : Option Addr) (n0 : Nat) (c0 : Nat) (x1 : Int) (f2 : Nat) (cap2 : Array Value) (w : World) (K : Value → World → Prop) : Prop :=
  Cll Tryz.prog 14 #[(.slice A0 n0 c0), (.int .i64 x1)] w fun v21 w22 => (∃ u23 : Value, (∃ (n24 : Int), True ∧ ∃ (A25 : Option Addr) (n26 : Nat) (c27 : Nat), True ∧ ∃ (A28 : Option Addr) (n29 : Nat) (c30 : Nat), True ∧ u23 = (.agg #[(.int .i64 n24), (.slice A25 n26 c27), (.slice A28 n29 c30)]) ∧ ∃ u31 : Value, (∃ (n32 : Int), u31 = (.int .i64 n32) ∧ ∃ u33 : Value, (∃ (b34 : Bool), u33 = (.bool b34) ∧ v21 = (.tuple #[(.agg #[(.int .i64 n24), (.slice A25 n26 c27), (.slice A28 n29 c30)]), (.int .i64 n32), (.bool b34)]) ∧ newK w22 (.cells #[(.int .i64 0), (.slice none 0 0), (.slice none 0 0)] 29) fun g35 w36 => stCells (⟨g35, 0, none⟩ : Addr) [(.int .i64 n24), (.slice A25 n26 c27), (.slice A28 n29 c30)] 0 w36 fun w37 => bcase (!b34) (K (.bool false) w37) (Cll Tryz.prog 57 #[(.slice A0 n0 c0), (.int .i64 x1)] w37 fun v38 w39 => (∃ (n40 : Int), True ∧ ∃ (A41 : Option Addr) (n42 : Nat) (c43 : Nat), True ∧ ∃ (A44 : Option Addr) (n45 : Nat) (c46 : Nat), True ∧ v38 = (.agg #[(.int .i64 n40), (.slice A41 n42 c43), (.slice A44 n45 c46)]) ∧ newK w39 (.cells #[(.int .i64 0), (.slice none 0 0), (.slice none 0 0)] 29) fun g47 w48 => stCells (⟨g47, 0, none⟩ : Addr) [(.int .i64 n40), (.slice A41 n42 c43), (.slice A44 n45 c46)] 0 w48 fun w49 => LoopT (σ := Int × Unit) (fun z50 w51 next52 => bcase (decide (z50.1 < n32)) (∃ (n53 : Int), w51.cell? ((⟨g47, 0, none⟩ : Addr).add 0) = some (.int .i64 n53) ∧ ∃ (A54 : Option Addr) (n55 : Nat) (c56 : Nat), w51.cell? ((⟨g47, 0, none⟩ : Addr).add 1) = some (.slice A54 n55 c56) ∧ ∃ (A57 : Option Addr) (n58 : Nat) (c59 : Nat), w51.cell? ((⟨g47, 0, none⟩ : Addr).add 2) = some (.slice A57 n58 c59) ∧ Cll Tryz.prog f2 (#[(.agg #[(.int .i64 n53), (.slice A54 n55 c56), (.slice A57 n58 c59)])] ++ cap2) w51 fun v60 w61 => (v60 = (.tuple #[]) ∧ Cll Tryz.prog 116 #[(.pointer (some (⟨g47, 0, none⟩ : Addr))), (.slice A0 n0 c0)] w61 fun v62 w63 => (∃ (b64 : Bool), v62 = (.bool b64) ∧ next52 ((IntKind.wrap .i64 (z50.1 + 1)), ()) w63))) (∃ (n65 : Int), w51.cell? ((⟨g47, 0, none⟩ : Addr).add 0) = some (.int .i64 n65) ∧ ∃ (A66 : Option Addr) (n67 : Nat) (c68 : Nat), w51.cell? ((⟨g47, 0, none⟩ : Addr).add 1) = some (.slice A66 n67 c68) ∧ ∃ (A69 : Option Addr) (n70 : Nat) (c71 : Nat), w51.cell? ((⟨g47, 0, none⟩ : Addr).add 2) = some (.slice A69 n70 c71) ∧ Cll Tryz.prog f2 (#[(.agg #[(.int .i64 n65), (.slice A66 n67 c68), (.slice A69 n70 c71)])] ++ cap2) w51 fun v72 w73 => (v72 = (.tuple #[]) ∧ K (.bool true) w73))) (0, ()) w49))))))

def impl_visit_b.ann : Ann := (.seq .l (.seq .l (.seq (.seq .l (.two (.seq .l .l) .l)) (.seq .l (.seq (.seq .l (.one (.loop [(24, .int .i64)] (.seq .l (.seq (.two .l .l) (.seq (.one (.seq .l .l)) .l)))))) (.seq .l (.seq .l .l)))))))

theorem impl_visit_b.start {A0 : Option Addr} {n0 : Nat} {c0 : Nat} {x1 : Int} {f2 : Nat} {cap2 : Array Value} {w : World} {K : Value → World → Prop} (h : impl_visit_b.vc A0 n0 c0 x1 f2 cap2 w K) : Cll Tryz.prog 65 #[(.slice A0 n0 c0), (.int .i64 x1), (.func (.func f2) #[] cap2)] w K :=
  vcF_sound mixed (fn := Tryz.f65) (by kernel_rfl) (by kernel_rfl) (an := impl_visit_b.ann) (args := [(.slice A0 n0 c0), (.int .i64 x1), (.func (.func f2) #[] cap2)]) (Eq.mpr (by kernel_rfl) h)

theorem impl_visit_b.con {xs0 : List D.Ins} {x1 : Int} {s2c0 : D.Cost} {xs2c1 : List D.Ins} {A0 : Option Addr} {c0 : Nat} {g2_ : Nat} {g3_ : Nat} {A2c1_0 : Option Addr} {c2c1_0 : Nat} {r : Bool × D.Cost} {w : World} (hp : M.impl_visit_b_pre xs0 x1 s2c0 xs2c1) (hr : r = M.impl_visit_b xs0 x1 s2c0 xs2c1) (R0 : Row el91 w A0 xs0) (hc0 : xs0.length ≤ c0) (O2 : Blk w g2_ 39 #[(.int .i64 s2c0.Steps), (.int .i64 s2c0.Active), (.int .i64 s2c0.Splits)]) (O3 : Blk w g3_ 24 #[(.slice A2c1_0 xs2c1.length c2c1_0)]) (R2c1_0 : Row el91 w A2c1_0 xs2c1) (hc2c1_0 : xs2c1.length ≤ c2c1_0) (DB3 : ¬ (fun k_ => k_ = g2_) g3_) (D0 : xs0 ≠ [] → ∀ g, InB A0 g → ¬ (fun k_ => k_ = g2_) g) (D2c1_0 : xs2c1 ≠ [] → ∀ g, InB A2c1_0 g → ¬ (fun k_ => k_ = g2_) g) :
    Cll Tryz.prog 65 #[(.slice A0 xs0.length c0), (.int .i64 x1), (.func (.func 66) #[] #[(.pointer (some (⟨g2_, 0, none⟩ : Addr))), (.pointer (some (⟨g3_, 0, none⟩ : Addr)))])] w (fun v_ w_ => v_ = (.bool r.1) ∧ Blk w_ g2_ 39 #[(.int .i64 r.2.Steps), (.int .i64 r.2.Active), (.int .i64 r.2.Splits)] ∧ Chg (fun k_ => k_ = g2_) w w_) := by
  have H := wp.impl_visit_b.math xs0 x1 s2c0 xs2c1 hp
  have hB := Chg.refl (fun k_ => k_ = g2_) w
  refine impl_visit_b.start ?_
  unfold impl_visit_b.vc
  unfold wp.impl_visit_b at H
  obtain ⟨hp23, H⟩ := H
  obtain ⟨r21, hr22, H⟩ := callO H
  refine (impl_WarpResult.con hp23 hr22 (R0.chgS hB D0) hc0).mono ?_
  rintro _ w24 ⟨A26, c27, A28, c29, rfl, P5, P6, e25⟩
  have N5_2 := P5.apart_old O2.lt
  have N5_3 := P5.apart_old O3.lt
  have N6_2 := P6.apart_old O2.lt
  have N6_3 := P6.apart_old O3.lt
  have O2 := O2.ext e25
  have O3 := O3.ext e25
  have O5 := P5.mono hB.size
  have O6 := P6.mono hB.size
  have hB := hB.then e25
  refine ⟨(.agg #[(.int .i64 r21.1.Number), (.slice A26 r21.1.Frames.length c27), (.slice A28 r21.1.Regs.length c29)]), r21.1.Number, trivial, A26, r21.1.Frames.length, c27, trivial, A28, r21.1.Regs.length, c29, trivial, rfl, (.int .i64 r21.2.1), r21.2.1, rfl, (.bool r21.2.2), r21.2.2, rfl, rfl, ?_⟩
  refine newBlk (fun g7_ w30 L7 P7 e31 => ?_)
  have N2_7 := O2.ne L7
  have N3_7 := O3.ne L7
  have N5_7 := O5.apart_new L7
  have N6_7 := O6.apart_new L7
  have O2 := O2.ext e31
  have O3 := O3.ext e31
  have O5 := O5.ext e31
  have O6 := O6.ext e31
  have O7 := P7
  have L7 := Nat.le_trans hB.size L7
  have hB := hB.then e31
  refine stBlk O7 (o := 0) (cs' := #[(.int .i64 r21.1.Number), (.slice A26 r21.1.Frames.length c27), (.slice A28 r21.1.Regs.length c29)]) rfl rfl (Nat.le_of_ble_eq_true rfl) rfl (fun w32 P7 e33 => ?_)
  have O2_ := O2.chg e33 N2_7
  have O3_ := O3.chg e33 N3_7
  have O5_ := O5.chg e33 N5_7
  have O6_ := O6.chg e33 N6_7
  have O2 := O2_
  have O3 := O3_
  have O5 := O5_
  have O6 := O6_
  have hB := hB.chgb e33 (Or.inl L7)
  have O7 := P7
  refine brc H (fun hc110 H => ?_) (fun hc110 H => ?_)
  ·obtain rfl := hr.trans H.symm
   exact ⟨rfl, O2, hB⟩
  obtain ⟨hp36, H⟩ := H
  obtain ⟨r34, hr35, H⟩ := callO H
  refine (impl_newWarp.con hp36 hr35 (R0.chgS hB D0) hc0).mono ?_
  rintro _ w37 ⟨A39, c40, A41, c42, rfl, P8, P9, e38⟩
  have N8_2 := P8.apart_old O2.lt
  have N8_3 := P8.apart_old O3.lt
  have N9_2 := P9.apart_old O2.lt
  have N9_3 := P9.apart_old O3.lt
  have O2 := O2.ext e38
  have O3 := O3.ext e38
  have O8 := P8.mono hB.size
  have O9 := P9.mono hB.size
  have hB := hB.then e38
  refine ⟨r34.Number, trivial, A39, r34.Frames.length, c40, trivial, A41, r34.Regs.length, c42, trivial, rfl, ?_⟩
  refine newBlk (fun g10_ w43 L10 P10 e44 => ?_)
  have N2_10 := O2.ne L10
  have N3_10 := O3.ne L10
  have N8_10 := O8.apart_new L10
  have N9_10 := O9.apart_new L10
  have O2 := O2.ext e44
  have O3 := O3.ext e44
  have O8 := O8.ext e44
  have O9 := O9.ext e44
  have O10 := P10
  have L10 := Nat.le_trans hB.size L10
  have hB := hB.then e44
  refine stBlk O10 (o := 0) (cs' := #[(.int .i64 r34.Number), (.slice A39 r34.Frames.length c40), (.slice A41 r34.Regs.length c42)]) rfl rfl (Nat.le_of_ble_eq_true rfl) rfl (fun w45 P10 e46 => ?_)
  have O2_ := O2.chg e46 N2_10
  have O3_ := O3.chg e46 N3_10
  have O8_ := O8.chg e46 N8_10
  have O9_ := O9.chg e46 N9_10
  have O2 := O2_
  have O3 := O3_
  have O8 := O8_
  have O9 := O9_
  have hB := hB.chgb e46 (Or.inl L10)
  have O10 := P10
  obtain ⟨J79, ⟨m108, hJ107⟩, hS80⟩ := H
  refine ⟨fun m_ z_ w_ => ∃ (i67 : Int) (i68 : Int) (i69 : Int) (i70 : Int) (i71 : Int) (xs72 : List D.Frame) (xs75 : List Int) (A73 : Option Addr) (c74 : Nat) (A76 : Option Addr) (c77 : Nat), z_ = (i67, ()) ∧ J79 m_ (i67, i68, i69, i70, i71, xs72, xs75, ()) ∧ Chg (fun k_ => k_ = g2_) w w_ ∧ Blk w_ g2_ 39 #[(.int .i64 i68), (.int .i64 i69), (.int .i64 i70)] ∧ Blk w_ g10_ 29 #[(.int .i64 i71), (.slice A73 xs72.length c74), (.slice A76 xs75.length c77)] ∧ Own el105 w_ w.heap.size A73 c74 xs72 ∧ Own el3 w_ w.heap.size A76 c77 xs75 ∧ Blk w_ g3_ 24 #[(.slice A2c1_0 xs2c1.length c2c1_0)], ⟨m108, 0, s2c0.Steps, s2c0.Active, s2c0.Splits, r34.Number, r34.Frames, r34.Regs, A39, c40, A41, c42, rfl, hJ107, hB, O2, O10, O8, O9, O3⟩, ?_⟩
  rintro m78 _ w82 ⟨i67, i68, i69, i70, i71, xs72, xs75, A73, c74, A76, c77, rfl, hJ109, hB, O2, O10, O13, O14, O3⟩
  have H := hS80 m78 _ hJ109
  clear hS80 hJ109
  try dsimp only at H ⊢
  refine brc H (fun hc105 H => ?_) (fun hc105 H => ?_)
  ·refine ⟨_, (O10.at 0 rfl rfl), _, _, _, (O10.at 1 rfl rfl), _, _, _, (O10.at 2 rfl rfl), ?_⟩
   obtain ⟨hp85, H⟩ := H
   obtain ⟨r83, hr84, H⟩ := callO H
   refine (cllApp (l1 := [_]) (l2 := [_, _]) (impl_CostOf_1.con hp85 hr84 O13.row O13.le O14.row O14.le O2 O3 (R2c1_0.chgS hB D2c1_0) hc2c1_0 ((fun h_ => DB3 h_)) (fun _ => (box_inb (O13.apart_type O2 (by decide)))) (fun _ => (box_inb (O14.apart_type O2 (by decide)))) (fun hx_ => (fun g h_ hS_ => D2c1_0 hx_ g h_ hS_)))).mono ?_
   rintro _ w86 ⟨rfl, Q2, e87⟩
   have O3 := O3.chgS e87 ((fun h_ => DB3 h_))
   have O10 := O10.chgS e87 ((N2_10).symm)
   have O13 := O13.chgS e87 (box_inb (O13.apart_type O2 (by decide)))
   have O14 := O14.chgS e87 (box_inb (O14.apart_type O2 (by decide)))
   have hB := hB.chg e87 (fun g h_ => Or.inr h_)
   have O2 := Q2
   refine ⟨rfl, ?_⟩
   obtain ⟨hp90, H⟩ := H
   obtain ⟨r88, hr89, H⟩ := callO H
   refine (impl_Warp_pass.con hp90 hr89 O10.plc (O13.mono (Nat.zero_le _)) (O14.mono (Nat.zero_le _)) (R0.chgS hB D0) hc0 (fun hx_ => (fun g h_ => (fun hS_ => hS_.elim ((fun g h_ hS_ => Nat.not_le.2 (R0.old hx_ g h_) (O13.low g hS_)) g h_) (fun hS_ => hS_.elim ((fun g h_ hS_ => Nat.not_le.2 (R0.old hx_ g h_) (O14.low g hS_)) g h_) ((fun g h_ hS_ => Nat.not_le.2 (R0.old hx_ g h_) (box_low L10 _ hS_)) g h_)))))).mono ?_
   rintro _ w91 ⟨A93, c94, A95, c96, rfl, Q10, Q15, Mv15, Q16, Mv16, e92⟩
   have Q10 := Q10.toBlk rfl
   have Lw15 := Mv15.low O13.low hB.size
   have Lw16 := Mv16.low O14.low hB.size
   have O2 := O2.chgS e92 (fun hS_ => hS_.elim ((O13.apart_type O2 (by decide))).inb (fun hS_ => hS_.elim ((O14.apart_type O2 (by decide))).inb (N2_10)))
   have O3 := O3.chgS e92 (fun hS_ => hS_.elim ((O13.apart_type O3 (by decide))).inb (fun hS_ => hS_.elim ((O14.apart_type O3 (by decide))).inb (N3_10)))
   have hB := hB.chg e92 (fun g => (fun hS_ => hS_.elim ((fun g h_ => Or.inl (O13.low g h_)) g) (fun hS_ => hS_.elim ((fun g h_ => Or.inl (O14.low g h_)) g) ((fun g h_ => Or.inl (h_ ▸ L10)) g))))
   have O10 := Q10
   have O15 := Q15.lift Lw15
   have O16 := Q16.lift Lw16
   refine ⟨r88.1, rfl, ?_⟩
   obtain ⟨m97, hm98, hJ99⟩ := H
   exact ⟨m97, hm98, (IntKind.wrap .i64 (i67 + 1)), r83.Steps, r83.Active, r83.Splits, r88.2.Number, r88.2.Frames, r88.2.Regs, A93, c94, A95, c96, rfl, hJ99, hB, O2, O10, O15, O16, O3⟩
  refine ⟨_, (O10.at 0 rfl rfl), _, _, _, (O10.at 1 rfl rfl), _, _, _, (O10.at 2 rfl rfl), ?_⟩
  obtain ⟨hp102, H⟩ := H
  obtain ⟨r100, hr101, H⟩ := callO H
  refine (cllApp (l1 := [_]) (l2 := [_, _]) (impl_CostOf_1.con hp102 hr101 O13.row O13.le O14.row O14.le O2 O3 (R2c1_0.chgS hB D2c1_0) hc2c1_0 ((fun h_ => DB3 h_)) (fun _ => (box_inb (O13.apart_type O2 (by decide)))) (fun _ => (box_inb (O14.apart_type O2 (by decide)))) (fun hx_ => (fun g h_ hS_ => D2c1_0 hx_ g h_ hS_)))).mono ?_
  rintro _ w103 ⟨rfl, Q2, e104⟩
  have O3 := O3.chgS e104 ((fun h_ => DB3 h_))
  have O10 := O10.chgS e104 ((N2_10).symm)
  have O13 := O13.chgS e104 (box_inb (O13.apart_type O2 (by decide)))
  have O14 := O14.chgS e104 (box_inb (O14.apart_type O2 (by decide)))
  have hB := hB.chg e104 (fun g h_ => Or.inr h_)
  have O2 := Q2
  refine ⟨rfl, ?_⟩
  obtain rfl := hr.trans H.symm
  exact ⟨rfl, O2, hB⟩
def impl_CostOf.vc (A0 : Option Addr) (n0 : Nat) (c0 : Nat) (x1 : Int) (w : World) (K : Value → World → Prop) : Prop :=
  newK w (.cells #[(.slice A0 n0 c0)] 24) fun g21 w22 => newK w22 (.cells #[(.int .i64 0), (.int .i64 0), (.int .i64 0)] 39) fun g23 w24 => newK w24 (.cells #[(.int .i64 0), (.int .i64 0), (.int .i64 0)] 39) fun g25 w26 => stCells (⟨g25, 0, none⟩ : Addr) [(.int .i64 0), (.int .i64 0), (.int .i64 0)] 0 w26 fun w27 => ∃ (A28 : Option Addr) (n29 : Nat) (c30 : Nat), w27.cell? ((⟨g21, 0, none⟩ : Addr).add 0) = some (.slice A28 n29 c30) ∧ Cll Tryz.prog 65 #[(.slice A28 n29 c30), (.int .i64 x1), (.func (.func 66) #[] #[(.pointer (some (⟨g25, 0, none⟩ : Addr))), (.pointer (some (⟨g21, 0, none⟩ : Addr)))])] w27 fun v31 w32 => (∃ (b33 : Bool), v31 = (.bool b33) ∧ bcase (!b33) (stCells (⟨g23, 0, none⟩ : Addr) [(.int .i64 0), (.int .i64 0), (.int .i64 0)] 0 w32 fun w34 => ∃ (n35 : Int), w34.cell? ((⟨g23, 0, none⟩ : Addr).add 0) = some (.int .i64 n35) ∧ ∃ (n36 : Int), w34.cell? ((⟨g23, 0, none⟩ : Addr).add 1) = some (.int .i64 n36) ∧ ∃ (n37 : Int), w34.cell? ((⟨g23, 0, none⟩ : Addr).add 2) = some (.int .i64 n37) ∧ K (.tuple #[(.agg #[(.int .i64 n35), (.int .i64 n36), (.int .i64 n37)]), (.bool false)]) w34) (∃ (n38 : Int), w32.cell? ((⟨g25, 0, none⟩ : Addr).add 0) = some (.int .i64 n38) ∧ ∃ (n39 : Int), w32.cell? ((⟨g25, 0, none⟩ : Addr).add 1) = some (.int .i64 n39) ∧ ∃ (n40 : Int), w32.cell? ((⟨g25, 0, none⟩ : Addr).add 2) = some (.int .i64 n40) ∧ stCells (⟨g23, 0, none⟩ : Addr) [(.int .i64 n38), (.int .i64 n39), (.int .i64 n40)] 0 w32 fun w41 => ∃ (n42 : Int), w41.cell? ((⟨g23, 0, none⟩ : Addr).add 0) = some (.int .i64 n42) ∧ ∃ (n43 : Int), w41.cell? ((⟨g23, 0, none⟩ : Addr).add 1) = some (.int .i64 n43) ∧ ∃ (n44 : Int), w41.cell? ((⟨g23, 0, none⟩ : Addr).add 2) = some (.int .i64 n44) ∧ K (.tuple #[(.agg #[(.int .i64 n42), (.int .i64 n43), (.int .i64 n44)]), (.bool true)]) w41))

def impl_CostOf.ann : Ann := (.seq .l (.seq .l (.seq .l (.seq (.seq .l (.two (.seq .l .l) .l)) (.seq .l .l)))))

theorem impl_CostOf.con {xs0 : List D.Ins} {A0 : Option Addr} {c0 : Nat} {x1 : Int} {r : D.Cost × Bool} {w : World} (hp : M.impl_CostOf_pre xs0 x1) (hr : r = M.impl_CostOf xs0 x1) (R0 : Row el91 w A0 xs0) (hc0 : xs0.length ≤ c0) :
    Cll Tryz.prog 21 #[(.slice A0 xs0.length c0), (.int .i64 x1)] w (fun v_ w_ => v_ = (.tuple #[(.agg #[(.int .i64 r.1.Steps), (.int .i64 r.1.Active), (.int .i64 r.1.Splits)]), (.bool r.2)]) ∧ Ext w w_) := by
  have H := wp.impl_CostOf.math xs0 x1 hp
  have hB := Ext.refl w
  refine beginF mixed (fn := Tryz.f21) (by kernel_rfl) (by kernel_rfl) (an := impl_CostOf.ann) (V := impl_CostOf.vc A0 xs0.length c0 x1) (by kernel_rfl) ?_
  unfold impl_CostOf.vc
  unfold wp.impl_CostOf at H
  refine newBlk (fun g2_ w21 L2 P2 e22 => ?_)
  have O2 := P2
  have L2 := Nat.le_trans hB.size L2
  have hB := ethen hB e22
  refine newBlk (fun g3_ w23 L3 P3 e24 => ?_)
  have N2_3 := O2.ne L3
  have O2 := O2.ext e24
  have O3 := P3
  have L3 := Nat.le_trans hB.size L3
  have hB := ethen hB e24
  refine newBlk (fun g4_ w25 L4 P4 e26 => ?_)
  have N2_4 := O2.ne L4
  have N3_4 := O3.ne L4
  have O2 := O2.ext e26
  have O3 := O3.ext e26
  have O4 := P4
  have L4 := Nat.le_trans hB.size L4
  have hB := ethen hB e26
  refine stBlk O4 (o := 0) (cs' := #[(.int .i64 0), (.int .i64 0), (.int .i64 0)]) rfl rfl (Nat.le_of_ble_eq_true rfl) rfl (fun w27 P4 e28 => ?_)
  have O2_ := O2.chg e28 N2_4
  have O3_ := O3.chg e28 N3_4
  have O2 := O2_
  have O3 := O3_
  have hB := echg hB e28 L4
  have O4 := P4
  refine ⟨_, _, _, (O2.at 0 rfl rfl), ?_⟩
  obtain ⟨hp31, H⟩ := H
  obtain ⟨r29, hr30, H⟩ := callO H
  refine (impl_visit_b.con hp31 hr30 (R0.ext hB) hc0 O4 O2 (R0.ext hB) hc0 (N2_4) (fun hx_ => (fun g h_ hS_ => Nat.not_le.2 (R0.old hx_ g h_) (box_low L4 _ hS_))) (fun hx_ => (fun g h_ hS_ => Nat.not_le.2 (R0.old hx_ g h_) (box_low L4 _ hS_)))).mono ?_
  rintro _ w32 ⟨rfl, Q4, e33⟩
  have O2 := O2.chgS e33 (N2_4)
  have O3 := O3.chgS e33 (N3_4)
  have hB := Chg.ext hB e33 (box_low L4)
  have O4 := Q4
  refine ⟨r29.1, rfl, ?_⟩
  refine brc H (fun hc38 H => ?_) (fun hc38 H => ?_)
  ·refine stBlk O3 (o := 0) (cs' := #[(.int .i64 0), (.int .i64 0), (.int .i64 0)]) rfl rfl (Nat.le_of_ble_eq_true rfl) rfl (fun w34 P3 e35 => ?_)
   have O4_ := O4.chg e35 (N3_4).symm
   have O4 := O4_
   have hB := echg hB e35 L3
   have O3 := P3
   refine ⟨_, (O3.at 0 rfl rfl), _, (O3.at 1 rfl rfl), _, (O3.at 2 rfl rfl), ?_⟩
   obtain rfl := hr.trans H.symm
   exact ⟨rfl, hB⟩
  refine ⟨_, (O4.at 0 rfl rfl), _, (O4.at 1 rfl rfl), _, (O4.at 2 rfl rfl), ?_⟩
  refine stBlk O3 (o := 0) (cs' := #[(.int .i64 r29.2.Steps), (.int .i64 r29.2.Active), (.int .i64 r29.2.Splits)]) rfl rfl (Nat.le_of_ble_eq_true rfl) rfl (fun w36 P3 e37 => ?_)
  have O4_ := O4.chg e37 (N3_4).symm
  have O4 := O4_
  have hB := echg hB e37 L3
  have O3 := P3
  refine ⟨_, (O3.at 0 rfl rfl), _, (O3.at 1 rfl rfl), _, (O3.at 2 rfl rfl), ?_⟩
  obtain rfl := hr.trans H.symm
  exact ⟨rfl, hB⟩
def impl_isTarget.vc (x0 : Int) (w : World) (K : Value → World → Prop) : Prop :=
  bcase (x0 == 10) (K (.bool true) w) (K (.bool (x0 == 11)) w)

def impl_isTarget.ann : Ann := (.seq .l (.seq .l .l))

theorem impl_isTarget.con {x0 : Int} {r : Bool} {w : World} (hr : r = M.impl_isTarget x0)  :
    Cll Tryz.prog 169 #[(.int .i64 x0)] w (fun v_ w_ => v_ = (.bool r) ∧ Ext w w_) := by
  have H := wp.impl_isTarget.math x0
  have hB := Ext.refl w
  refine beginF mixed (fn := Tryz.f169) (by kernel_rfl) (by kernel_rfl) (an := impl_isTarget.ann) (V := impl_isTarget.vc x0) (by kernel_rfl) ?_
  unfold impl_isTarget.vc
  unfold wp.impl_isTarget at H
  refine brc H (fun hc21 H => ?_) (fun hc21 H => ?_)
  ·obtain rfl := hr.trans H.symm
   exact ⟨rfl, hB⟩
  obtain rfl := hr.trans H.symm
  exact ⟨rfl, hB⟩
def impl_CanPredicate_1.vc (x0_0 : Int) (x0_1 : Int) (x0_2 : Int) (x0_3 : Int) (p1 : Addr) (w : World) (K : Value → World → Prop) : Prop :=
  newK w (.cells #[(.int .i64 x0_0), (.int .i64 x0_1), (.int .i64 x0_2), (.int .i64 x0_3)] 91) fun g21 w22 => ∃ (n23 : Int), w22.cell? (((⟨g21, 0, none⟩ : Addr).add 0).add 0) = some (.int .i64 n23) ∧ Cll Tryz.prog 169 #[(.int .i64 n23)] w22 fun v24 w25 => (∃ (b26 : Bool), v24 = (.bool b26) ∧ bcase b26 (∃ (n27 : Int), w25.cell? (((⟨g21, 0, none⟩ : Addr).add 2).add 0) = some (.int .i64 n27) ∧ ∃ (n28 : Int), w25.cell? (p1.add 0) = some (.int .i64 n28) ∧ K (.bool (n27 == (IntKind.wrap .i64 (n28 + 1)))) w25) (K (.bool false) w25))

def impl_CanPredicate_1.ann : Ann := (.seq .l (.seq .l .l))

theorem impl_CanPredicate_1.con {s0 : D.Ins} {x1 : Int} {g1_ : Nat} {r : Bool} {w : World} (hp : M.impl_CanPredicate_1_pre s0 x1) (hr : r = M.impl_CanPredicate_1 s0 x1) (O1 : Blk w g1_ 3 #[(.int .i64 x1)]) :
    Cll Tryz.prog 168 #[(.agg #[(.int .i64 s0.Op), (.int .i64 s0.A), (.int .i64 s0.B), (.int .i64 s0.C)]), (.pointer (some (⟨g1_, 0, none⟩ : Addr)))] w (fun v_ w_ => v_ = (.bool r) ∧ Ext w w_) := by
  have H := wp.impl_CanPredicate_1.math s0 x1 hp
  have hB := Ext.refl w
  refine beginF mixed (fn := Tryz.f168) (by kernel_rfl) (by kernel_rfl) (an := impl_CanPredicate_1.ann) (V := impl_CanPredicate_1.vc s0.Op s0.A s0.B s0.C (⟨g1_, 0, none⟩ : Addr)) (by kernel_rfl) ?_
  unfold impl_CanPredicate_1.vc
  unfold wp.impl_CanPredicate_1 at H
  refine newBlk (fun g2_ w21 L2 P2 e22 => ?_)
  have N1_2 := O1.ne L2
  have O1 := O1.ext e22
  have O2 := P2
  have L2 := Nat.le_trans hB.size L2
  have hB := ethen hB e22
  refine ⟨_, (O2.at 0 rfl rfl), ?_⟩
  obtain ⟨r23, hr24, H⟩ := callO H
  refine (impl_isTarget.con hr24 ).mono ?_
  rintro _ w26 ⟨rfl, e27⟩
  have O1 := O1.ext e27
  have O2 := O2.ext e27
  have hB := ethen hB e27
  refine ⟨r23, rfl, ?_⟩
  refine brc H (fun hc28 H => ?_) (fun hc28 H => ?_)
  ·refine ⟨_, (O2.at 2 rfl rfl), _, (O1.at 0 rfl rfl), ?_⟩
   obtain rfl := hr.trans H.symm
   exact ⟨rfl, hB⟩
  obtain rfl := hr.trans H.symm
  exact ⟨rfl, hB⟩
def impl_CanPredicate.vc (A0 : Option Addr) (n0 : Nat) (c0 : Nat) (x1 : Int) (w : World) (K : Value → World → Prop) : Prop :=
  newK w (.cells #[(.int .i64 x1)] 3) fun g21 w22 => Cll Tryz.prog 27 #[(.slice A0 n0 c0)] w22 fun v24 w25 => (∃ (b26 : Bool), v24 = (.bool b26) ∧ bcase (!b26) (K (.bool false) w25) (∃ (n27 : Int), w25.cell? ((⟨g21, 0, none⟩ : Addr).add 0) = some (.int .i64 n27) ∧ Cll Tryz.prog 58 #[(.int .i64 n27), (.int .i64 0), (.int .i64 (IntKind.wrap .i64 (((n0 : Nat) : Int) - 2)))] w25 fun v28 w29 => (∃ (b30 : Bool), v28 = (.bool b30) ∧ bcase (!b30) (K (.bool false) w29) (JoinT (σ := Addr × Addr × Unit) (fun J31 => (∃ M32 : Nat → Prop, ∃ (n33 : Int), (¬ M32 ((⟨g21, 0, none⟩ : Addr)).block ∧ w29.cell? ((⟨g21, 0, none⟩ : Addr).add 0) = some (.int .i64 n33)) ∧ ((0 : Int) ≤ n33 ∧ n33 < ((n0 : Nat) : Int) ∧ ∃ a34 : Addr, A0 = some a34 ∧ ∃ (n35 : Int), (¬ M32 ((a34.add ((n33.toNat) * 4))).block ∧ w29.cell? ((a34.add ((n33.toNat) * 4)).add 0) = some (.int .i64 n35)) ∧ ∃ (n36 : Int), (¬ M32 ((a34.add ((n33.toNat) * 4))).block ∧ w29.cell? ((a34.add ((n33.toNat) * 4)).add 1) = some (.int .i64 n36)) ∧ ∃ (n37 : Int), (¬ M32 ((a34.add ((n33.toNat) * 4))).block ∧ w29.cell? ((a34.add ((n33.toNat) * 4)).add 2) = some (.int .i64 n37)) ∧ ∃ (n38 : Int), (¬ M32 ((a34.add ((n33.toNat) * 4))).block ∧ w29.cell? ((a34.add ((n33.toNat) * 4)).add 3) = some (.int .i64 n38)) ∧ ∃ (n39 : Int), (¬ M32 ((⟨g21, 0, none⟩ : Addr)).block ∧ w29.cell? ((⟨g21, 0, none⟩ : Addr).add 0) = some (.int .i64 n39)) ∧ ((0 : Int) ≤ (IntKind.wrap .i64 (n39 + 1)) ∧ (IntKind.wrap .i64 (n39 + 1)) < ((n0 : Nat) : Int) ∧ ∃ a40 : Addr, A0 = some a40 ∧ ∃ (n41 : Int), (¬ M32 ((a40.add (((IntKind.wrap .i64 (n39 + 1)).toNat) * 4))).block ∧ w29.cell? ((a40.add (((IntKind.wrap .i64 (n39 + 1)).toNat) * 4)).add 0) = some (.int .i64 n41)) ∧ ∃ (n42 : Int), (¬ M32 ((a40.add (((IntKind.wrap .i64 (n39 + 1)).toNat) * 4))).block ∧ w29.cell? ((a40.add (((IntKind.wrap .i64 (n39 + 1)).toNat) * 4)).add 1) = some (.int .i64 n42)) ∧ ∃ (n43 : Int), (¬ M32 ((a40.add (((IntKind.wrap .i64 (n39 + 1)).toNat) * 4))).block ∧ w29.cell? ((a40.add (((IntKind.wrap .i64 (n39 + 1)).toNat) * 4)).add 2) = some (.int .i64 n43)) ∧ ∃ (n44 : Int), (¬ M32 ((a40.add (((IntKind.wrap .i64 (n39 + 1)).toNat) * 4))).block ∧ w29.cell? ((a40.add (((IntKind.wrap .i64 (n39 + 1)).toNat) * 4)).add 3) = some (.int .i64 n44)) ∧ ((newK w29.drew (.cells #[(.int .i64 0), (.int .i64 0), (.int .i64 0), (.int .i64 0)] 91) fun g45 w46 => SameBut M32 w29 w46 ∧ newK w46 (.cells #[(.int .i64 0), (.int .i64 0), (.int .i64 0), (.int .i64 0)] 91) fun g47 w48 => SameBut M32 w29 w48 ∧ stCells (⟨g45, 0, none⟩ : Addr) [(.int .i64 n35), (.int .i64 n36), (.int .i64 n37), (.int .i64 n38)] 0 w48 fun w49 => SameBut M32 w29 w49 ∧ stCells (⟨g47, 0, none⟩ : Addr) [(.int .i64 n41), (.int .i64 n42), (.int .i64 n43), (.int .i64 n44)] 0 w49 fun w50 => J31 ((⟨g45, 0, none⟩ : Addr), (⟨g47, 0, none⟩ : Addr), ()) w50) ∧ (newK w29.drew (.cells #[(.int .i64 0), (.int .i64 0), (.int .i64 0), (.int .i64 0)] 91) fun g51 w52 => SameBut M32 w29 w52 ∧ newK w52 (.cells #[(.int .i64 0), (.int .i64 0), (.int .i64 0), (.int .i64 0)] 91) fun g53 w54 => SameBut M32 w29 w54 ∧ stCells (⟨g53, 0, none⟩ : Addr) [(.int .i64 n35), (.int .i64 n36), (.int .i64 n37), (.int .i64 n38)] 0 w54 fun w55 => SameBut M32 w29 w55 ∧ stCells (⟨g51, 0, none⟩ : Addr) [(.int .i64 n41), (.int .i64 n42), (.int .i64 n43), (.int .i64 n44)] 0 w55 fun w56 => J31 ((⟨g53, 0, none⟩ : Addr), (⟨g51, 0, none⟩ : Addr), ()) w56) ∧ True))))) fun z57 w58 => ∃ (n59 : Int), w58.cell? ((z57.1.add 0).add 0) = some (.int .i64 n59) ∧ bcase (n59 == 10) (∃ (n60 : Int), w58.cell? ((z57.1.add 2).add 0) = some (.int .i64 n60) ∧ ∃ (n61 : Int), w58.cell? ((⟨g21, 0, none⟩ : Addr).add 0) = some (.int .i64 n61) ∧ bcase (n60 == (IntKind.wrap .i64 (n61 + 2))) (∃ (n62 : Int), w58.cell? ((z57.2.1.add 0).add 0) = some (.int .i64 n62) ∧ bcase (n62 == 2) (∃ (n63 : Int), w58.cell? ((z57.2.1.add 1).add 0) = some (.int .i64 n63) ∧ ∃ (n64 : Int), w58.cell? ((z57.1.add 1).add 0) = some (.int .i64 n64) ∧ bcase (n63 != n64) (Cll Tryz.prog 74 #[(.slice A0 n0 c0), (.func (.func 168) #[] #[(.pointer (some (⟨g21, 0, none⟩ : Addr)))])] w58 fun v65 w66 => (∃ (b67 : Bool), v65 = (.bool b67) ∧ K (.bool (!b67)) w66)) (K (.bool false) w58)) (K (.bool false) w58)) (K (.bool false) w58)) (K (.bool false) w58)))))

def impl_CanPredicate.ann : Ann := (.seq .l (.seq (.seq .l (.two (.seq .l .l) .l)) (.cut [(5, .ptr), (6, .ptr)] .l (.seq .l .l))))

theorem impl_CanPredicate.con {xs0 : List D.Ins} {A0 : Option Addr} {c0 : Nat} {x1 : Int} {r : Bool} {w : World} (hp : M.impl_CanPredicate_pre xs0 x1) (hr : r = M.impl_CanPredicate xs0 x1) (R0 : Row el91 w A0 xs0) (hc0 : xs0.length ≤ c0) :
    Cll Tryz.prog 125 #[(.slice A0 xs0.length c0), (.int .i64 x1)] w (fun v_ w_ => v_ = (.bool r) ∧ Ext w w_) := by
  have H := wp.impl_CanPredicate.math xs0 x1 hp
  have hB := Ext.refl w
  refine beginF mixed (fn := Tryz.f125) (by kernel_rfl) (by kernel_rfl) (an := impl_CanPredicate.ann) (V := impl_CanPredicate.vc A0 xs0.length c0 x1) (by kernel_rfl) ?_
  unfold impl_CanPredicate.vc
  unfold wp.impl_CanPredicate at H
  refine newBlk (fun g2_ w21 L2 P2 e22 => ?_)
  have O2 := P2
  have L2 := Nat.le_trans hB.size L2
  have hB := ethen hB e22
  obtain ⟨hp25, H⟩ := H
  obtain ⟨r23, hr24, H⟩ := callO H
  refine (impl_IsQuiet.con hp25 hr24 (R0.ext hB) hc0).mono ?_
  rintro _ w26 ⟨rfl, e27⟩
  have O2 := O2.ext e27
  have hB := ethen hB e27
  refine ⟨r23, rfl, ?_⟩
  refine brc H (fun hc83 H => ?_) (fun hc83 H => ?_)
  ·obtain rfl := hr.trans H.symm
   exact ⟨rfl, hB⟩
  refine ⟨_, (O2.at 0 rfl rfl), ?_⟩
  obtain ⟨r28, hr29, H⟩ := callO H
  refine (impl_within.con hr29 ).mono ?_
  rintro _ w31 ⟨rfl, e32⟩
  have O2 := O2.ext e32
  have hB := ethen hB e32
  refine ⟨r28, rfl, ?_⟩
  refine brc H (fun hc82 H => ?_) (fun hc82 H => ?_)
  ·obtain rfl := hr.trans H.symm
   exact ⟨rfl, hB⟩
  obtain ⟨K81, hKK81, H⟩ := joinP_out H
  refine ⟨fun z_ w_ => ∃ (i33 : Int) (i34 : Int) (i35 : Int) (i36 : Int) (i37 : Int) (i38 : Int) (i39 : Int) (i40 : Int) (g7_ : Nat) (g8_ : Nat), z_ = ((⟨g7_, 0, none⟩ : Addr), (⟨g8_, 0, none⟩ : Addr), ()) ∧ K81 (i33, i34, i35, i36, i37, i38, i39, i40, ()) ∧ Ext w w_ ∧ Blk w_ g7_ 91 #[(.int .i64 i33), (.int .i64 i34), (.int .i64 i35), (.int .i64 i36)] ∧ w.heap.size ≤ g7_ ∧ Blk w_ g8_ 91 #[(.int .i64 i37), (.int .i64 i38), (.int .i64 i39), (.int .i64 i40)] ∧ w.heap.size ≤ g8_ ∧ Blk w_ g2_ 3 #[(.int .i64 x1)] ∧ g7_ ≠ g8_, ?_, ?_⟩
  ·refine ⟨(fun _ => False), _, ⟨(fun h_ => h_), (O2.at 0 rfl rfl)⟩, ?_⟩
   obtain ⟨⟨h0_48, h1_49⟩, H⟩ := H
   obtain ⟨a46, ha47, hat45⟩ := Row.at (R0.ext hB) h0_48 h1_49
   refine ⟨h0_48, h1_49, a46, ha47, _, ⟨(fun h_ => h_), (hat45 0 _ rfl)⟩, _, ⟨(fun h_ => h_), (hat45 1 _ rfl)⟩, _, ⟨(fun h_ => h_), (hat45 2 _ rfl)⟩, _, ⟨(fun h_ => h_), (hat45 3 _ rfl)⟩, _, ⟨(fun h_ => h_), (O2.at 0 rfl rfl)⟩, ?_⟩
   obtain ⟨⟨h0_53, h1_54⟩, H⟩ := H
   obtain ⟨a51, ha52, hat50⟩ := Row.at (R0.ext hB) h0_53 h1_54
   refine ⟨h0_53, h1_54, a51, ha52, _, ⟨(fun h_ => h_), (hat50 0 _ rfl)⟩, _, ⟨(fun h_ => h_), (hat50 1 _ rfl)⟩, _, ⟨(fun h_ => h_), (hat50 2 _ rfl)⟩, _, ⟨(fun h_ => h_), (hat50 3 _ rfl)⟩, ?_⟩
   refine And.intro ?_ ?_
   ·have H := H.1
    have hS44 := Chg.refl (fun _ => False) w31
    have O2 := O2.ext (Ext.drew _)
    have hB := ethen hB (Ext.drew _)
    have hS44 := hS44.then (Ext.drew _)
    refine newBlk (fun g9_ w55 L9 P9 e56 => ?_)
    have N2_9 := O2.ne L9
    have O2 := O2.ext e56
    have O9 := P9
    have LB9 := Nat.le_trans hS44.size L9
    have L9 := Nat.le_trans hB.size L9
    have hB := ethen hB e56
    have hS44 := hS44.then e56
    refine ⟨sameBut_chg hS44, ?_⟩
    refine newBlk (fun g10_ w57 L10 P10 e58 => ?_)
    have N2_10 := O2.ne L10
    have N9_10 := O9.ne L10
    have O2 := O2.ext e58
    have O9 := O9.ext e58
    have O10 := P10
    have LB10 := Nat.le_trans hS44.size L10
    have L10 := Nat.le_trans hB.size L10
    have hB := ethen hB e58
    have hS44 := hS44.then e58
    refine ⟨sameBut_chg hS44, ?_⟩
    refine stBlk O9 (o := 0) (cs' := #[(.int .i64 ((rd xs0 x1).Op)), (.int .i64 ((rd xs0 x1).A)), (.int .i64 ((rd xs0 x1).B)), (.int .i64 ((rd xs0 x1).C))]) rfl rfl (Nat.le_of_ble_eq_true rfl) rfl (fun w59 P9 e60 => ?_)
    have O2_ := O2.chg e60 N2_9
    have O10_ := O10.chg e60 (N9_10).symm
    have O2 := O2_
    have O10 := O10_
    have hB := echg hB e60 L9
    have hS44 := hS44.chgb e60 (Or.inl LB9)
    have O9 := P9
    refine ⟨sameBut_chg hS44, ?_⟩
    refine stBlk O10 (o := 0) (cs' := #[(.int .i64 ((rd xs0 (IntKind.wrap .i64 (x1 + 1))).Op)), (.int .i64 ((rd xs0 (IntKind.wrap .i64 (x1 + 1))).A)), (.int .i64 ((rd xs0 (IntKind.wrap .i64 (x1 + 1))).B)), (.int .i64 ((rd xs0 (IntKind.wrap .i64 (x1 + 1))).C))]) rfl rfl (Nat.le_of_ble_eq_true rfl) rfl (fun w61 P10 e62 => ?_)
    have O2_ := O2.chg e62 N2_10
    have O9_ := O9.chg e62 N9_10
    have O2 := O2_
    have O9 := O9_
    have hB := echg hB e62 L10
    have O10 := P10
    exact ⟨(rd xs0 x1).Op, (rd xs0 x1).A, (rd xs0 x1).B, (rd xs0 x1).C, (rd xs0 (IntKind.wrap .i64 (x1 + 1))).Op, (rd xs0 (IntKind.wrap .i64 (x1 + 1))).A, (rd xs0 (IntKind.wrap .i64 (x1 + 1))).B, (rd xs0 (IntKind.wrap .i64 (x1 + 1))).C, g9_, g10_, rfl, H, hB, O9, L9, O10, L10, O2, N9_10⟩
   refine And.intro ?_ ?_
   ·have H := H.2.1
    have hS44 := Chg.refl (fun _ => False) w31
    have O2 := O2.ext (Ext.drew _)
    have hB := ethen hB (Ext.drew _)
    have hS44 := hS44.then (Ext.drew _)
    refine newBlk (fun g11_ w63 L11 P11 e64 => ?_)
    have N2_11 := O2.ne L11
    have O2 := O2.ext e64
    have O11 := P11
    have LB11 := Nat.le_trans hS44.size L11
    have L11 := Nat.le_trans hB.size L11
    have hB := ethen hB e64
    have hS44 := hS44.then e64
    refine ⟨sameBut_chg hS44, ?_⟩
    refine newBlk (fun g12_ w65 L12 P12 e66 => ?_)
    have N2_12 := O2.ne L12
    have N11_12 := O11.ne L12
    have O2 := O2.ext e66
    have O11 := O11.ext e66
    have O12 := P12
    have LB12 := Nat.le_trans hS44.size L12
    have L12 := Nat.le_trans hB.size L12
    have hB := ethen hB e66
    have hS44 := hS44.then e66
    refine ⟨sameBut_chg hS44, ?_⟩
    refine stBlk O12 (o := 0) (cs' := #[(.int .i64 ((rd xs0 x1).Op)), (.int .i64 ((rd xs0 x1).A)), (.int .i64 ((rd xs0 x1).B)), (.int .i64 ((rd xs0 x1).C))]) rfl rfl (Nat.le_of_ble_eq_true rfl) rfl (fun w67 P12 e68 => ?_)
    have O2_ := O2.chg e68 N2_12
    have O11_ := O11.chg e68 N11_12
    have O2 := O2_
    have O11 := O11_
    have hB := echg hB e68 L12
    have hS44 := hS44.chgb e68 (Or.inl LB12)
    have O12 := P12
    refine ⟨sameBut_chg hS44, ?_⟩
    refine stBlk O11 (o := 0) (cs' := #[(.int .i64 ((rd xs0 (IntKind.wrap .i64 (x1 + 1))).Op)), (.int .i64 ((rd xs0 (IntKind.wrap .i64 (x1 + 1))).A)), (.int .i64 ((rd xs0 (IntKind.wrap .i64 (x1 + 1))).B)), (.int .i64 ((rd xs0 (IntKind.wrap .i64 (x1 + 1))).C))]) rfl rfl (Nat.le_of_ble_eq_true rfl) rfl (fun w69 P11 e70 => ?_)
    have O2_ := O2.chg e70 N2_11
    have O12_ := O12.chg e70 (N11_12).symm
    have O2 := O2_
    have O12 := O12_
    have hB := echg hB e70 L11
    have O11 := P11
    exact ⟨(rd xs0 x1).Op, (rd xs0 x1).A, (rd xs0 x1).B, (rd xs0 x1).C, (rd xs0 (IntKind.wrap .i64 (x1 + 1))).Op, (rd xs0 (IntKind.wrap .i64 (x1 + 1))).A, (rd xs0 (IntKind.wrap .i64 (x1 + 1))).B, (rd xs0 (IntKind.wrap .i64 (x1 + 1))).C, g12_, g11_, rfl, H, hB, O12, L12, O11, L11, O2, (N11_12).symm⟩
   exact trivial
  rintro _ w42 ⟨i33, i34, i35, i36, i37, i38, i39, i40, g7_, g8_, rfl, H, hB, O7, L7, O8, L8, O2, N7_8⟩
  have H := hKK81 _ H
  try dsimp only at H ⊢
  refine ⟨_, (O7.at 0 rfl rfl), ?_⟩
  refine brc H (fun hc79 H => ?_) (fun hc79 H => ?_)
  ·refine ⟨_, (O7.at 2 rfl rfl), _, (O2.at 0 rfl rfl), ?_⟩
   refine brc H (fun hc78 H => ?_) (fun hc78 H => ?_)
   ·refine ⟨_, (O8.at 0 rfl rfl), ?_⟩
    refine brc H (fun hc77 H => ?_) (fun hc77 H => ?_)
    ·refine ⟨_, (O8.at 1 rfl rfl), _, (O7.at 1 rfl rfl), ?_⟩
     refine brc H (fun hc76 H => ?_) (fun hc76 H => ?_)
     ·obtain ⟨hp73, H⟩ := H
      obtain ⟨r71, hr72, H⟩ := callO H
      refine (slices_ContainsFunc_impl_Ins_impl_Ins.con hp73 hr72 (R0.ext hB) hc0 (fun z0_ h_ w_ e_ => cllApp (l1 := [_]) (l2 := [_]) (impl_CanPredicate_1.con h_ rfl (O2.ext e_)))).mono ?_
      rintro _ w74 ⟨rfl, e75⟩
      have O2 := O2.ext e75
      have O7 := O7.ext e75
      have O8 := O8.ext e75
      have hB := ethen hB e75
      refine ⟨r71, rfl, ?_⟩
      obtain rfl := hr.trans H.symm
      exact ⟨rfl, hB⟩
     obtain rfl := hr.trans H.symm
     exact ⟨rfl, hB⟩
    obtain rfl := hr.trans H.symm
    exact ⟨rfl, hB⟩
   obtain rfl := hr.trans H.symm
   exact ⟨rfl, hB⟩
  obtain rfl := hr.trans H.symm
  exact ⟨rfl, hB⟩
def impl_Predicate.vc (A0 : Option Addr) (n0 : Nat) (c0 : Nat) (x1 : Int) (w : World) (K : Value → World → Prop) : Prop :=
  Cll Tryz.prog 71 #[(.slice A0 n0 c0)] w fun v21 w22 => (∃ (A23 : Option Addr) (n24 : Nat) (c25 : Nat), v21 = (.slice A23 n24 c25) ∧ Cll Tryz.prog 125 #[(.slice A0 n0 c0), (.int .i64 x1)] w22 fun v26 w27 => (∃ (b28 : Bool), v26 = (.bool b28) ∧ bcase (!b28) (K (.tuple #[(.slice A23 n24 c25), (.bool false)]) w27) (((0 : Int) ≤ x1 ∧ x1 < ((n24 : Nat) : Int) ∧ ∃ a29 : Addr, A23 = some a29 ∧ stCells (a29.add ((x1.toNat) * 4)) [(.int .i64 0), (.int .i64 0), (.int .i64 0), (.int .i64 0)] 0 w27 fun w30 => (∃ M31 : Nat → Prop, ((0 : Int) ≤ (IntKind.wrap .i64 (x1 + 1)) ∧ (IntKind.wrap .i64 (x1 + 1)) < ((n0 : Nat) : Int) ∧ ∃ a32 : Addr, A0 = some a32 ∧ ∃ (n33 : Int), (¬ M31 (((a32.add (((IntKind.wrap .i64 (x1 + 1)).toNat) * 4)).add 1)).block ∧ w30.cell? (((a32.add (((IntKind.wrap .i64 (x1 + 1)).toNat) * 4)).add 1).add 0) = some (.int .i64 n33)) ∧ ((0 : Int) ≤ (IntKind.wrap .i64 (x1 + 1)) ∧ (IntKind.wrap .i64 (x1 + 1)) < ((n0 : Nat) : Int) ∧ ∃ a34 : Addr, A0 = some a34 ∧ ∃ (n35 : Int), (¬ M31 (((a34.add (((IntKind.wrap .i64 (x1 + 1)).toNat) * 4)).add 2)).block ∧ w30.cell? (((a34.add (((IntKind.wrap .i64 (x1 + 1)).toNat) * 4)).add 2).add 0) = some (.int .i64 n35)) ∧ ((0 : Int) ≤ x1 ∧ x1 < ((n0 : Nat) : Int) ∧ ∃ a36 : Addr, A0 = some a36 ∧ ∃ (n37 : Int), (¬ M31 (((a36.add ((x1.toNat) * 4)).add 1)).block ∧ w30.cell? (((a36.add ((x1.toNat) * 4)).add 1).add 0) = some (.int .i64 n37)) ∧ ((0 : Int) ≤ (IntKind.wrap .i64 (x1 + 1)) ∧ (IntKind.wrap .i64 (x1 + 1)) < ((n24 : Nat) : Int) ∧ ∃ a38 : Addr, A23 = some a38 ∧ stCells (a38.add (((IntKind.wrap .i64 (x1 + 1)).toNat) * 4)) [(.int .i64 9), (.int .i64 n33), (.int .i64 n35), (.int .i64 n37)] 0 w30.drew fun w39 => K (.tuple #[(.slice A23 n24 c25), (.bool true)]) w39)))))))))

def impl_Predicate.ann : Ann := (.seq .l (.seq .l (.seq (.seq .l (.two (.seq .l .l) .l)) (.seq .l (.seq .l (.seq .l .l))))))

theorem impl_Predicate.con {xs0 : List D.Ins} {A0 : Option Addr} {c0 : Nat} {x1 : Int} {r : (List D.Ins) × Bool} {w : World} (hp : M.impl_Predicate_pre xs0 x1) (hr : r = M.impl_Predicate xs0 x1) (R0 : Row el91 w A0 xs0) (hc0 : xs0.length ≤ c0) :
    Cll Tryz.prog 72 #[(.slice A0 xs0.length c0), (.int .i64 x1)] w (fun v_ w_ => ∃ (A0_ : Option Addr) (c0_ : Nat), v_ = (.tuple #[(.slice A0_ r.1.length c0_), (.bool r.2)]) ∧ Own el91 w_ w.heap.size A0_ c0_ r.1 ∧ Ext w w_) := by
  have H := wp.impl_Predicate.math xs0 x1 hp
  have hB := Ext.refl w
  refine beginF mixed (fn := Tryz.f72) (by kernel_rfl) (by kernel_rfl) (an := impl_Predicate.ann) (V := impl_Predicate.vc A0 xs0.length c0 x1) (by kernel_rfl) ?_
  unfold impl_Predicate.vc
  unfold wp.impl_Predicate at H
  obtain ⟨hp23, H⟩ := H
  obtain ⟨r21, hr22, H⟩ := callO H
  refine (slices_Clone_impl_Ins_impl_Ins.con hp23 hr22 (R0.ext hB) hc0).mono ?_
  rintro _ w24 ⟨A26, c27, rfl, P2, e25⟩
  have O2 := P2.mono hB.size
  have hB := ethen hB e25
  refine ⟨A26, r21.length, c27, rfl, ?_⟩
  obtain ⟨hp30, H⟩ := H
  obtain ⟨r28, hr29, H⟩ := callO H
  refine (impl_CanPredicate.con hp30 hr29 (R0.ext hB) hc0).mono ?_
  rintro _ w31 ⟨rfl, e32⟩
  have O2 := O2.ext e32
  have hB := ethen hB e32
  refine ⟨r28, rfl, ?_⟩
  refine brc H (fun hc65 H => ?_) (fun hc65 H => ?_)
  ·obtain rfl := hr.trans H.symm
   exact ⟨A26, c27, rfl, O2, hB⟩
  obtain ⟨⟨h0_36, h1_37⟩, H⟩ := H
  obtain ⟨a34, ha35, hat33⟩ := Row.at O2.row h0_36 h1_37
  refine ⟨h0_36, h1_37, a34, ha35, ?_⟩
  refine Own.storeAt O2 ha35 h0_36 h1_37 0 [(.int .i64 0), (.int .i64 0), (.int .i64 0), (.int .i64 0)] (⟨0, 0, 0, 0⟩ : D.Ins) rfl (Nat.le_of_ble_eq_true rfl) rfl (fun w38 P2 e39 hb40 => ?_)
  have hB := echg hB e39 hb40
  have O2 := P2
  refine ⟨(fun _ => False), ?_⟩
  obtain ⟨⟨h0_45, h1_46⟩, H⟩ := H
  obtain ⟨a43, ha44, hat42⟩ := Row.at (R0.ext hB) h0_45 h1_46
  refine ⟨h0_45, h1_46, a43, ha44, _, ⟨(fun h_ => h_), (hat42 1 _ rfl)⟩, ?_⟩
  obtain ⟨⟨h0_50, h1_51⟩, H⟩ := H
  obtain ⟨a48, ha49, hat47⟩ := Row.at (R0.ext hB) h0_50 h1_51
  refine ⟨h0_50, h1_51, a48, ha49, _, ⟨(fun h_ => h_), (hat47 2 _ rfl)⟩, ?_⟩
  obtain ⟨⟨h0_55, h1_56⟩, H⟩ := H
  obtain ⟨a53, ha54, hat52⟩ := Row.at (R0.ext hB) h0_55 h1_56
  refine ⟨h0_55, h1_56, a53, ha54, _, ⟨(fun h_ => h_), (hat52 1 _ rfl)⟩, ?_⟩
  obtain ⟨⟨h0_60, h1_61⟩, H⟩ := H
  obtain ⟨a58, ha59, hat57⟩ := Row.at O2.row h0_60 h1_61
  refine ⟨h0_60, (by first | exact h1_61 | omega | (simp at h1_61 ⊢; omega)), a58, ha59, ?_⟩
  have hS41 := Chg.refl (fun _ => False) w38
  have O2 := O2.ext (Ext.drew _)
  have hB := ethen hB (Ext.drew _)
  have hS41 := hS41.then (Ext.drew _)
  refine Own.storeAt O2 ha59 h0_60 h1_61 0 [(.int .i64 9), (.int .i64 ((rd xs0 (IntKind.wrap .i64 (x1 + 1))).A)), (.int .i64 ((rd xs0 (IntKind.wrap .i64 (x1 + 1))).B)), (.int .i64 ((rd xs0 x1).A))] (⟨9, (rd xs0 (IntKind.wrap .i64 (x1 + 1))).A, (rd xs0 (IntKind.wrap .i64 (x1 + 1))).B, (rd xs0 x1).A⟩ : D.Ins) rfl (Nat.le_of_ble_eq_true rfl) rfl (fun w62 P2 e63 hb64 => ?_)
  have hB := echg hB e63 hb64
  have O2 := P2
  obtain rfl := hr.trans H.symm
  exact ⟨A26, c27, (by first | rfl | (simp; done) | (simp; omega) | (simp [*]; done)), (by first | exact O2 | (simp only [List.length_set]; exact O2)), hB⟩
def impl_PredicateAll.vc (A0 : Option Addr) (n0 : Nat) (c0 : Nat) (w : World) (K : Value → World → Prop) : Prop :=
  Cll Tryz.prog 71 #[(.slice A0 n0 c0)] w fun v21 w22 => (∃ (A23 : Option Addr) (n24 : Nat) (c25 : Nat), v21 = (.slice A23 n24 c25) ∧ LoopT (σ := (Option Addr × Nat × Nat) × Int × Int × Unit) (fun z26 w27 next28 => bcase (decide (z26.2.2.1 < ((n0 : Nat) : Int))) (Cll Tryz.prog 72 #[(.slice z26.1.1 z26.1.2.1 z26.1.2.2), (.int .i64 z26.2.2.1)] w27 fun v29 w30 => (∃ u31 : Value, (∃ (A32 : Option Addr) (n33 : Nat) (c34 : Nat), u31 = (.slice A32 n33 c34) ∧ ∃ u35 : Value, (∃ (b36 : Bool), u35 = (.bool b36) ∧ v29 = (.tuple #[(.slice A32 n33 c34), (.bool b36)]) ∧ bcase b36 (next28 ((A32, n33, c34), (IntKind.wrap .i64 (z26.2.1 + 1)), (IntKind.wrap .i64 (z26.2.2.1 + 1)), ()) w30) (next28 ((z26.1.1, z26.1.2.1, z26.1.2.2), z26.2.1, (IntKind.wrap .i64 (z26.2.2.1 + 1)), ()) w30))))) (K (.tuple #[(.slice z26.1.1 z26.1.2.1 z26.1.2.2), (.int .i64 z26.2.1)]) w27)) ((A23, n24, c25), 0, 0, ()) w22)

def impl_PredicateAll.ann : Ann := (.seq .l (.seq .l (.seq .l (.seq (.seq .l (.one (.loop [(4, .sl), (5, .int .i64), (13, .int .i64)] (.seq .l (.seq (.two .l .l) (.seq (.one (.seq .l (.seq .l (.seq .l (.two (.seq .l .l) .l))))) .l)))))) (.seq .l .l)))))

theorem impl_PredicateAll.con {xs0 : List D.Ins} {A0 : Option Addr} {c0 : Nat} {r : (List D.Ins) × Int} {w : World} (hp : M.impl_PredicateAll_pre xs0) (hr : r = M.impl_PredicateAll xs0) (R0 : Row el91 w A0 xs0) (hc0 : xs0.length ≤ c0) :
    Cll Tryz.prog 26 #[(.slice A0 xs0.length c0)] w (fun v_ w_ => ∃ (A0_ : Option Addr) (c0_ : Nat), v_ = (.tuple #[(.slice A0_ r.1.length c0_), (.int .i64 r.2)]) ∧ Own el91 w_ w.heap.size A0_ c0_ r.1 ∧ Ext w w_) := by
  have H := wp.impl_PredicateAll.math xs0 hp
  have hB := Ext.refl w
  refine beginF mixed (fn := Tryz.f26) (by kernel_rfl) (by kernel_rfl) (an := impl_PredicateAll.ann) (V := impl_PredicateAll.vc A0 xs0.length c0) (by kernel_rfl) ?_
  unfold impl_PredicateAll.vc
  unfold wp.impl_PredicateAll at H
  obtain ⟨hp23, H⟩ := H
  obtain ⟨r21, hr22, H⟩ := callO H
  refine (slices_Clone_impl_Ins_impl_Ins.con hp23 hr22 (R0.ext hB) hc0).mono ?_
  rintro _ w24 ⟨A26, c27, rfl, P2, e25⟩
  have O2 := P2.mono hB.size
  have hB := ethen hB e25
  refine ⟨A26, r21.length, c27, rfl, ?_⟩
  obtain ⟨J34, ⟨m55, hJ54⟩, hS35⟩ := H
  refine ⟨fun m_ z_ w_ => ∃ (xs28 : List D.Ins) (i31 : Int) (i32 : Int) (A29 : Option Addr) (c30 : Nat), z_ = ((A29, xs28.length, c30), i31, i32, ()) ∧ J34 m_ (xs28, i31, i32, ()) ∧ Ext w w_ ∧ Own el91 w_ w.heap.size A29 c30 xs28, ⟨m55, r21, 0, 0, A26, c27, rfl, hJ54, hB, O2⟩, ?_⟩
  rintro m33 _ w37 ⟨xs28, i31, i32, A29, c30, rfl, hJ56, hB, O3⟩
  have H := hS35 m33 _ hJ56
  clear hS35 hJ56
  try dsimp only at H ⊢
  refine brc H (fun hc52 H => ?_) (fun hc52 H => ?_)
  ·obtain ⟨hp40, H⟩ := H
   obtain ⟨r38, hr39, H⟩ := callO H
   refine (impl_Predicate.con hp40 hr39 O3.row O3.le).mono ?_
   rintro _ w41 ⟨A43, c44, rfl, P4, e42⟩
   have N3_4 := Own.apart2_new O3 P4 (Nat.le_refl _)
   have O3 := O3.ext e42
   have O4 := P4.mono hB.size
   have hB := ethen hB e42
   refine ⟨(.slice A43 r38.1.length c44), A43, r38.1.length, c44, rfl, (.bool r38.2), r38.2, rfl, rfl, ?_⟩
   refine brc H (fun hc51 H => ?_) (fun hc51 H => ?_)
   ·obtain ⟨m45, hm46, hJ47⟩ := H
    exact ⟨m45, hm46, r38.1, (IntKind.wrap .i64 (i31 + 1)), (IntKind.wrap .i64 (i32 + 1)), A43, c44, rfl, hJ47, hB, O4⟩
   obtain ⟨m48, hm49, hJ50⟩ := H
   exact ⟨m48, hm49, xs28, i31, (IntKind.wrap .i64 (i32 + 1)), A29, c30, rfl, hJ50, hB, O3⟩
  obtain rfl := hr.trans H.symm
  exact ⟨A29, c30, rfl, O3, hB⟩
def impl_SavedSplits.vc (A0 : Option Addr) (n0 : Nat) (c0 : Nat) (x1 : Int) (w : World) (K : Value → World → Prop) : Prop :=
  Cll Tryz.prog 26 #[(.slice A0 n0 c0)] w fun v21 w22 => (∃ u23 : Value, (∃ (A24 : Option Addr) (n25 : Nat) (c26 : Nat), u23 = (.slice A24 n25 c26) ∧ ∃ u27 : Value, (∃ (n28 : Int), u27 = (.int .i64 n28) ∧ v21 = (.tuple #[(.slice A24 n25 c26), (.int .i64 n28)]) ∧ Cll Tryz.prog 21 #[(.slice A0 n0 c0), (.int .i64 x1)] w22 fun v29 w30 => (∃ u31 : Value, (∃ (n32 : Int), True ∧ ∃ (n33 : Int), True ∧ ∃ (n34 : Int), True ∧ u31 = (.agg #[(.int .i64 n32), (.int .i64 n33), (.int .i64 n34)]) ∧ ∃ u35 : Value, (∃ (b36 : Bool), u35 = (.bool b36) ∧ v29 = (.tuple #[(.agg #[(.int .i64 n32), (.int .i64 n33), (.int .i64 n34)]), (.bool b36)]) ∧ newK w30 (.cells #[(.int .i64 0), (.int .i64 0), (.int .i64 0)] 39) fun g37 w38 => stCells (⟨g37, 0, none⟩ : Addr) [(.int .i64 n32), (.int .i64 n33), (.int .i64 n34)] 0 w38 fun w39 => Cll Tryz.prog 21 #[(.slice A24 n25 c26), (.int .i64 x1)] w39 fun v40 w41 => (∃ u42 : Value, (∃ (n43 : Int), True ∧ ∃ (n44 : Int), True ∧ ∃ (n45 : Int), True ∧ u42 = (.agg #[(.int .i64 n43), (.int .i64 n44), (.int .i64 n45)]) ∧ ∃ u46 : Value, (∃ (b47 : Bool), u46 = (.bool b47) ∧ v40 = (.tuple #[(.agg #[(.int .i64 n43), (.int .i64 n44), (.int .i64 n45)]), (.bool b47)]) ∧ newK w41 (.cells #[(.int .i64 0), (.int .i64 0), (.int .i64 0)] 39) fun g48 w49 => stCells (⟨g48, 0, none⟩ : Addr) [(.int .i64 n43), (.int .i64 n44), (.int .i64 n45)] 0 w49 fun w50 => bcase (!b36) (K (.int .i64 0) w50) (bcase (!b47) (K (.int .i64 0) w50) (∃ (n51 : Int), w50.cell? (((⟨g37, 0, none⟩ : Addr).add 2).add 0) = some (.int .i64 n51) ∧ ∃ (n52 : Int), w50.cell? (((⟨g48, 0, none⟩ : Addr).add 2).add 0) = some (.int .i64 n52) ∧ K (.int .i64 (IntKind.wrap .i64 (n51 - n52))) w50)))))))))))

def impl_SavedSplits.ann : Ann := (.seq .l (.seq .l (.seq .l (.seq .l (.seq (.seq .l (.two (.seq .l .l) .l)) (.seq .l .l))))))

theorem impl_SavedSplits.con {xs0 : List D.Ins} {A0 : Option Addr} {c0 : Nat} {x1 : Int} {r : Int} {w : World} (hp : M.impl_SavedSplits_pre xs0 x1) (hr : r = M.impl_SavedSplits xs0 x1) (R0 : Row el91 w A0 xs0) (hc0 : xs0.length ≤ c0) :
    Cll Tryz.prog 29 #[(.slice A0 xs0.length c0), (.int .i64 x1)] w (fun v_ w_ => v_ = (.int .i64 r) ∧ Ext w w_) := by
  have H := wp.impl_SavedSplits.math xs0 x1 hp
  have hB := Ext.refl w
  refine beginF mixed (fn := Tryz.f29) (by kernel_rfl) (by kernel_rfl) (an := impl_SavedSplits.ann) (V := impl_SavedSplits.vc A0 xs0.length c0 x1) (by kernel_rfl) ?_
  unfold impl_SavedSplits.vc
  unfold wp.impl_SavedSplits at H
  obtain ⟨hp23, H⟩ := H
  obtain ⟨r21, hr22, H⟩ := callO H
  refine (impl_PredicateAll.con hp23 hr22 (R0.ext hB) hc0).mono ?_
  rintro _ w24 ⟨A26, c27, rfl, P2, e25⟩
  have O2 := P2.mono hB.size
  have hB := ethen hB e25
  refine ⟨(.slice A26 r21.1.length c27), A26, r21.1.length, c27, rfl, (.int .i64 r21.2), r21.2, rfl, rfl, ?_⟩
  obtain ⟨hp30, H⟩ := H
  obtain ⟨r28, hr29, H⟩ := callO H
  refine (impl_CostOf.con hp30 hr29 (R0.ext hB) hc0).mono ?_
  rintro _ w31 ⟨rfl, e32⟩
  have O2 := O2.ext e32
  have hB := ethen hB e32
  refine ⟨(.agg #[(.int .i64 r28.1.Steps), (.int .i64 r28.1.Active), (.int .i64 r28.1.Splits)]), r28.1.Steps, trivial, r28.1.Active, trivial, r28.1.Splits, trivial, rfl, (.bool r28.2), r28.2, rfl, rfl, ?_⟩
  refine newBlk (fun g3_ w33 L3 P3 e34 => ?_)
  have N2_3 := O2.apart_new L3
  have O2 := O2.ext e34
  have O3 := P3
  have L3 := Nat.le_trans hB.size L3
  have hB := ethen hB e34
  refine stBlk O3 (o := 0) (cs' := #[(.int .i64 r28.1.Steps), (.int .i64 r28.1.Active), (.int .i64 r28.1.Splits)]) rfl rfl (Nat.le_of_ble_eq_true rfl) rfl (fun w35 P3 e36 => ?_)
  have O2_ := O2.chg e36 N2_3
  have O2 := O2_
  have hB := echg hB e36 L3
  have O3 := P3
  obtain ⟨hp39, H⟩ := H
  obtain ⟨r37, hr38, H⟩ := callO H
  refine (impl_CostOf.con hp39 hr38 O2.row O2.le).mono ?_
  rintro _ w40 ⟨rfl, e41⟩
  have O2 := O2.ext e41
  have O3 := O3.ext e41
  have hB := ethen hB e41
  refine ⟨(.agg #[(.int .i64 r37.1.Steps), (.int .i64 r37.1.Active), (.int .i64 r37.1.Splits)]), r37.1.Steps, trivial, r37.1.Active, trivial, r37.1.Splits, trivial, rfl, (.bool r37.2), r37.2, rfl, rfl, ?_⟩
  refine newBlk (fun g4_ w42 L4 P4 e43 => ?_)
  have N2_4 := O2.apart_new L4
  have N3_4 := O3.ne L4
  have O2 := O2.ext e43
  have O3 := O3.ext e43
  have O4 := P4
  have L4 := Nat.le_trans hB.size L4
  have hB := ethen hB e43
  refine stBlk O4 (o := 0) (cs' := #[(.int .i64 r37.1.Steps), (.int .i64 r37.1.Active), (.int .i64 r37.1.Splits)]) rfl rfl (Nat.le_of_ble_eq_true rfl) rfl (fun w44 P4 e45 => ?_)
  have O2_ := O2.chg e45 N2_4
  have O3_ := O3.chg e45 N3_4
  have O2 := O2_
  have O3 := O3_
  have hB := echg hB e45 L4
  have O4 := P4
  refine brc H (fun hc47 H => ?_) (fun hc47 H => ?_)
  ·obtain rfl := hr.trans H.symm
   exact ⟨rfl, hB⟩
  refine brc H (fun hc46 H => ?_) (fun hc46 H => ?_)
  ·obtain rfl := hr.trans H.symm
   exact ⟨rfl, hB⟩
  refine ⟨_, (O3.at 2 rfl rfl), _, (O4.at 2 rfl rfl), ?_⟩
  obtain rfl := hr.trans H.symm
  exact ⟨rfl, hB⟩
def spec_l01Once.vc (p0 : Addr) (x1 : Int) (w : World) (K : Value → World → Prop) : Prop :=
  Cll Tryz.prog 62 #[(.pointer (some p0)), (.int .i64 x1)] w fun v21 w22 => (∃ (n23 : Int), v21 = (.int .i64 n23) ∧ K (.bool (n23 == 0)) w22)

def spec_l01Once.ann : Ann := (.seq .l (.seq .l .l))

theorem spec_l01Once.con {s0 : D.Cur} {g1_ : Nat} {A0_0 : Option Addr} {c0_0 : Nat} {x1 : Int} {r : Bool × D.Cur} {w : World} (hp : M.spec_l01Once_pre s0 x1) (hr : r = M.spec_l01Once s0 x1) (O1 : Blk w g1_ 123 #[(.slice A0_0 s0.b.length c0_0), (.int .i64 s0.i), (.int .i64 s0.h)]) (R0_0 : Row el5 w A0_0 s0.b) (hc0_0 : s0.b.length ≤ c0_0) (D0_0 : s0.b ≠ [] → ∀ g, InB A0_0 g → ¬ (fun k_ => k_ = g1_) g) :
    Cll Tryz.prog 112 #[(.pointer (some (⟨g1_, 0, none⟩ : Addr))), (.int .i64 x1)] w (fun v_ w_ => v_ = (.bool r.1) ∧ Blk w_ g1_ 123 #[(.slice A0_0 r.2.b.length c0_0), (.int .i64 r.2.i), (.int .i64 r.2.h)] ∧ r.2.b = s0.b ∧ Chg (fun k_ => k_ = g1_) w w_) := by
  have H := wp.spec_l01Once.math s0 x1 hp
  have hB := Chg.refl (fun k_ => k_ = g1_) w
  refine beginF mixed (fn := Tryz.f112) (by kernel_rfl) (by kernel_rfl) (an := spec_l01Once.ann) (V := spec_l01Once.vc (⟨g1_, 0, none⟩ : Addr) x1) (by kernel_rfl) ?_
  unfold spec_l01Once.vc
  unfold wp.spec_l01Once at H
  obtain ⟨hp23, H⟩ := H
  obtain ⟨r21, hr22, H⟩ := callO H
  refine (spec_l01Below.con hp23 hr22 O1 (R0_0.chgS hB D0_0) hc0_0 (fun hx_ => (fun g h_ hS_ => D0_0 hx_ g h_ hS_))).mono ?_
  rintro _ w24 ⟨rfl, Q1, hq26, e25⟩
  rw [hq26] at Q1
  have hB := hB.chg e25 (fun g h_ => Or.inr h_)
  have O1 := Q1
  refine ⟨r21.1, rfl, ?_⟩
  obtain rfl := hr.trans H.symm
  exact ⟨rfl, O1, rfl, hB⟩
def spec_l18Short.vc (p0 : Addr) (w : World) (K : Value → World → Prop) : Prop :=
  Cll Tryz.prog 62 #[(.pointer (some p0)), (.int .i64 6)] w fun v21 w22 => (∃ (n23 : Int), v21 = (.int .i64 n23) ∧ Run Tryz.prog (Instr.buildSlice 24 3 #[(0, (.agg #[(.int .i64 8), (.int .i64 0), (.int .i64 0), (.int .i64 0)])), (1, (.agg #[(.int .i64 1), (.int .i64 1), (.int .i64 n23), (.int .i64 0)])), (2, (.agg #[(.int .i64 7), (.int .i64 2), (.int .i64 0), (.int .i64 1)]))]) w22 fun v24 w25 => ∃ (A26 : Option Addr) (n27 c28 : Nat), v24 = .slice A26 n27 c28 ∧ LoopT (σ := (Option Addr × Nat × Nat) × Int × Unit) (fun z29 w30 next31 => Cll Tryz.prog 62 #[(.pointer (some p0)), (.int .i64 4)] w30 fun v32 w33 => (∃ (n34 : Int), v32 = (.int .i64 n34) ∧ bcase (decide (z29.2.1 < (IntKind.wrap .i64 (1 + n34)))) (JoinT (σ := (Option Addr × Nat × Nat) × Unit) (fun J35 => Cll Tryz.prog 112 #[(.pointer (some p0)), (.int .i64 3)] w33 fun v36 w37 => (∃ (b38 : Bool), v36 = (.bool b38) ∧ bcase b38 (Cll Tryz.prog 124 #[(.pointer (some p0))] w37 fun v39 w40 => (∃ (n41 : Int), True ∧ ∃ (n42 : Int), True ∧ ∃ (n43 : Int), True ∧ ∃ (n44 : Int), True ∧ v39 = (.agg #[(.int .i64 n41), (.int .i64 n42), (.int .i64 n43), (.int .i64 n44)]) ∧ Run Tryz.prog (Instr.buildSlice 24 1 #[(0, (.agg #[(.int .i64 n41), (.int .i64 n42), (.int .i64 n43), (.int .i64 n44)]))]) w40 fun v45 w46 => ∃ (A47 : Option Addr) (n48 c49 : Nat), v45 = .slice A47 n48 c49 ∧ Run Tryz.prog (Builtin.append_ #[24, 24] 24 #[(.slice z29.1.1 z29.1.2.1 z29.1.2.2), (.slice A47 n48 c49)]) w46 fun v50 w51 => ∃ (A52 : Option Addr) (n53 c54 : Nat), v50 = .slice A52 n53 c54 ∧ J35 ((A52, n53, c54), ()) w51)) (J35 ((z29.1.1, z29.1.2.1, z29.1.2.2), ()) w37))) fun z55 w56 => Cll Tryz.prog 62 #[(.pointer (some p0)), (.int .i64 4)] w56 fun v57 w58 => (∃ (n59 : Int), v57 = (.int .i64 n59) ∧ Cll Tryz.prog 62 #[(.pointer (some p0)), (.int .i64 4)] w58 fun v60 w61 => (∃ (n62 : Int), v60 = (.int .i64 n62) ∧ Cll Tryz.prog 62 #[(.pointer (some p0)), (.int .i64 4)] w61 fun v63 w64 => (∃ (n65 : Int), v63 = (.int .i64 n65) ∧ Run Tryz.prog (Instr.buildSlice 24 2 #[(0, (.agg #[(.int .i64 10), (.int .i64 n59), (.int .i64 (IntKind.wrap .i64 (((z55.1.2.1 : Nat) : Int) + 2))), (.int .i64 0)])), (1, (.agg #[(.int .i64 2), (.int .i64 n62), (.int .i64 n65), (.int .i64 0)]))]) w64 fun v66 w67 => ∃ (A68 : Option Addr) (n69 c70 : Nat), v66 = .slice A68 n69 c70 ∧ Run Tryz.prog (Builtin.append_ #[24, 24] 24 #[(.slice z55.1.1 z55.1.2.1 z55.1.2.2), (.slice A68 n69 c70)]) w67 fun v71 w72 => ∃ (A73 : Option Addr) (n74 c75 : Nat), v71 = .slice A73 n74 c75 ∧ next31 ((A73, n74, c75), (IntKind.wrap .i64 (z29.2.1 + 1)), ()) w72)))) (K (.slice z29.1.1 z29.1.2.1 z29.1.2.2) w33))) ((A26, n27, c28), 0, ()) w25)

def spec_l18Short.ann : Ann := (.seq .l (.seq .l (.seq (.seq .l (.one (.loop [(3, .sl), (4, .int .i64)] (.seq (.seq .l (.two .l .l)) (.seq (.one (.cut [(3, .sl)] (.seq .l (.two .l .l)) (.seq .l .l))) .l))))) (.seq .l .l))))

theorem spec_l18Short.con {s0 : D.Cur} {g1_ : Nat} {A0_0 : Option Addr} {c0_0 : Nat} {r : (List D.Ins) × D.Cur} {w : World} (hp : M.spec_l18Short_pre s0) (hr : r = M.spec_l18Short s0) (O1 : Blk w g1_ 123 #[(.slice A0_0 s0.b.length c0_0), (.int .i64 s0.i), (.int .i64 s0.h)]) (R0_0 : Row el5 w A0_0 s0.b) (hc0_0 : s0.b.length ≤ c0_0) (D0_0 : s0.b ≠ [] → ∀ g, InB A0_0 g → ¬ (fun k_ => k_ = g1_) g) :
    Cll Tryz.prog 70 #[(.pointer (some (⟨g1_, 0, none⟩ : Addr)))] w (fun v_ w_ => ∃ (A0_ : Option Addr) (c0_ : Nat), v_ = (.slice A0_ r.1.length c0_) ∧ Own el91 w_ w.heap.size A0_ c0_ r.1 ∧ Blk w_ g1_ 123 #[(.slice A0_0 r.2.b.length c0_0), (.int .i64 r.2.i), (.int .i64 r.2.h)] ∧ r.2.b = s0.b ∧ Chg (fun k_ => k_ = g1_) w w_) := by
  have H := wp.spec_l18Short.math s0 hp
  have hB := Chg.refl (fun k_ => k_ = g1_) w
  refine beginF mixed (fn := Tryz.f70) (by kernel_rfl) (by kernel_rfl) (an := spec_l18Short.ann) (V := spec_l18Short.vc (⟨g1_, 0, none⟩ : Addr)) (by kernel_rfl) ?_
  unfold spec_l18Short.vc
  unfold wp.spec_l18Short at H
  obtain ⟨hp23, H⟩ := H
  obtain ⟨r21, hr22, H⟩ := callO H
  refine (spec_l01Below.con hp23 hr22 O1 (R0_0.chgS hB D0_0) hc0_0 (fun hx_ => (fun g h_ hS_ => D0_0 hx_ g h_ hS_))).mono ?_
  rintro _ w24 ⟨rfl, Q1, hq26, e25⟩
  rw [hq26] at Q1
  have hB := hB.chg e25 (fun g h_ => Or.inr h_)
  have O1 := Q1
  refine ⟨r21.1, rfl, ?_⟩
  refine buildOwn el91 ([(⟨8, 0, 0, 0⟩ : D.Ins), (⟨1, 1, r21.1, 0⟩ : D.Ins), (⟨7, 2, 0, 1⟩ : D.Ins)] : List D.Ins) (fun _ => by kernel_rfl) rfl (fun A27 w28 P3 e29 => ?_)
  have N3_1 := P3.apart_old O1.lt
  have O1 := O1.ext e29
  have O3 := P3.mono hB.size
  have hB := hB.then e29
  obtain ⟨J107, ⟨m180, hJ179⟩, hS108⟩ := H
  refine ⟨fun m_ z_ w_ => ∃ (xs100 : List D.Ins) (i103 : Int) (i104 : Int) (i105 : Int) (A101 : Option Addr) (c102 : Nat), z_ = ((A101, xs100.length, c102), i103, ()) ∧ J107 m_ (xs100, i103, i104, i105, ()) ∧ Chg (fun k_ => k_ = g1_) w w_ ∧ Own el91 w_ w.heap.size A101 c102 xs100 ∧ Blk w_ g1_ 123 #[(.slice A0_0 s0.b.length c0_0), (.int .i64 i104), (.int .i64 i105)], ⟨m180, ([(⟨8, 0, 0, 0⟩ : D.Ins), (⟨1, 1, r21.1, 0⟩ : D.Ins), (⟨7, 2, 0, 1⟩ : D.Ins)] : List D.Ins), 0, r21.2.i, r21.2.h, A27, 3, rfl, hJ179, hB, O3, O1⟩, ?_⟩
  rintro m106 _ w110 ⟨xs100, i103, i104, i105, A101, c102, rfl, hJ181, hB, O9, O1⟩
  have H := hS108 m106 _ hJ181
  clear hS108 hJ181
  try dsimp only at H ⊢
  obtain ⟨hp113, H⟩ := H
  obtain ⟨r111, hr112, H⟩ := callO H
  refine (spec_l01Below.con hp113 hr112 O1 (R0_0.chgS hB D0_0) hc0_0 (fun hx_ => (fun g h_ hS_ => D0_0 hx_ g h_ hS_))).mono ?_
  rintro _ w114 ⟨rfl, Q1, hq116, e115⟩
  rw [hq116] at Q1
  have O9 := O9.chgS e115 (box_inb (O9.apart_type O1 (by decide)))
  have hB := hB.chg e115 (fun g h_ => Or.inr h_)
  have O1 := Q1
  refine ⟨r111.1, rfl, ?_⟩
  refine brc H (fun hc177 H => ?_) (fun hc177 H => ?_)
  ·obtain ⟨K176, hKK176, H⟩ := joinP_out H
   refine ⟨fun z_ w_ => ∃ (xs117 : List D.Ins) (i120 : Int) (i121 : Int) (A118 : Option Addr) (c119 : Nat), z_ = ((A118, xs117.length, c119), ()) ∧ K176 (xs117, i120, i121, ()) ∧ Chg (fun k_ => k_ = g1_) w w_ ∧ Own el91 w_ w.heap.size A118 c119 xs117 ∧ Blk w_ g1_ 123 #[(.slice A0_0 s0.b.length c0_0), (.int .i64 i120), (.int .i64 i121)], ?_, ?_⟩
   ·obtain ⟨hp127, H⟩ := H
    obtain ⟨r125, hr126, H⟩ := callO H
    refine (spec_l01Once.con hp127 hr126 O1 (R0_0.chgS hB D0_0) hc0_0 (fun hx_ => (fun g h_ hS_ => D0_0 hx_ g h_ hS_))).mono ?_
    rintro _ w128 ⟨rfl, Q1, hq130, e129⟩
    rw [hq130] at Q1
    have O9 := O9.chgS e129 (box_inb (O9.apart_type O1 (by decide)))
    have hB := hB.chg e129 (fun g h_ => Or.inr h_)
    have O1 := Q1
    refine ⟨r125.1, rfl, ?_⟩
    refine brc H (fun hc145 H => ?_) (fun hc145 H => ?_)
    ·obtain ⟨hp133, H⟩ := H
     obtain ⟨r131, hr132, H⟩ := callO H
     refine (spec_l04Plain.con hp133 hr132 O1 (R0_0.chgS hB D0_0) hc0_0 (fun hx_ => (fun g h_ hS_ => D0_0 hx_ g h_ hS_))).mono ?_
     rintro _ w134 ⟨rfl, Q1, hq136, e135⟩
     rw [hq136] at Q1
     have O9 := O9.chgS e135 (box_inb (O9.apart_type O1 (by decide)))
     have hB := hB.chg e135 (fun g h_ => Or.inr h_)
     have O1 := Q1
     refine ⟨r131.1.Op, trivial, r131.1.A, trivial, r131.1.B, trivial, r131.1.C, trivial, rfl, ?_⟩
     refine buildOwn el91 ([r131.1] : List D.Ins) (fun _ => by kernel_rfl) rfl (fun A137 w138 P12 e139 => ?_)
     have N12_1 := P12.apart_old O1.lt
     have N9_12 := Own.apart2_new O9 P12 (Nat.le_refl _)
     have O1 := O1.ext e139
     have O9 := O9.ext e139
     have O12 := P12.mono hB.size
     have hB := hB.then e139
     obtain ⟨hl144, H⟩ := H
     refine appOwn slt24 slt24.under O9 O12.row hB.size rfl (by first | rfl | omega | (simp; done) | (simp; omega)) hl144 (fun A140 c141 w142 P9 e143 => ?_)
     have N9_1_ := Apart.app (O9.apart_type O1 (by decide)) e143 O1.lt
     have O1 := O1.app e143 (O9.apart_type O1 (by decide))
     have N12_9_ := Apart2.app (N9_12).symm e143 O12
     have O12 := O12.app e143 (N9_12).symm
     have N9_1 := N9_1_
     have N12_9 := N12_9_
     have hB := hB.app e143 (fun g h_ => Or.inl (O9.low g h_))
     have O9 := P9
     exact ⟨(xs100 ++ ([r131.1] : List D.Ins)), r131.2.i, r131.2.h, A140, c141, rfl, H, hB, O9, O1⟩
    exact ⟨xs100, r125.2.i, r125.2.h, A101, c102, rfl, H, hB, O9, O1⟩
   rintro _ w123 ⟨xs117, i120, i121, A118, c119, rfl, H, hB, O11, O1⟩
   have H := hKK176 _ H
   try dsimp only at H ⊢
   obtain ⟨hp148, H⟩ := H
   obtain ⟨r146, hr147, H⟩ := callO H
   refine (spec_l01Below.con hp148 hr147 O1 (R0_0.chgS hB D0_0) hc0_0 (fun hx_ => (fun g h_ hS_ => D0_0 hx_ g h_ hS_))).mono ?_
   rintro _ w149 ⟨rfl, Q1, hq151, e150⟩
   rw [hq151] at Q1
   have O11 := O11.chgS e150 (box_inb (O11.apart_type O1 (by decide)))
   have hB := hB.chg e150 (fun g h_ => Or.inr h_)
   have O1 := Q1
   refine ⟨r146.1, rfl, ?_⟩
   obtain ⟨hp154, H⟩ := H
   obtain ⟨r152, hr153, H⟩ := callO H
   refine (spec_l01Below.con hp154 hr153 O1 (R0_0.chgS hB D0_0) hc0_0 (fun hx_ => (fun g h_ hS_ => D0_0 hx_ g h_ hS_))).mono ?_
   rintro _ w155 ⟨rfl, Q1, hq157, e156⟩
   rw [hq157] at Q1
   have O11 := O11.chgS e156 (box_inb (O11.apart_type O1 (by decide)))
   have hB := hB.chg e156 (fun g h_ => Or.inr h_)
   have O1 := Q1
   refine ⟨r152.1, rfl, ?_⟩
   obtain ⟨hp160, H⟩ := H
   obtain ⟨r158, hr159, H⟩ := callO H
   refine (spec_l01Below.con hp160 hr159 O1 (R0_0.chgS hB D0_0) hc0_0 (fun hx_ => (fun g h_ hS_ => D0_0 hx_ g h_ hS_))).mono ?_
   rintro _ w161 ⟨rfl, Q1, hq163, e162⟩
   rw [hq163] at Q1
   have O11 := O11.chgS e162 (box_inb (O11.apart_type O1 (by decide)))
   have hB := hB.chg e162 (fun g h_ => Or.inr h_)
   have O1 := Q1
   refine ⟨r158.1, rfl, ?_⟩
   refine buildOwn el91 ([(⟨10, r146.1, (IntKind.wrap .i64 (((xs117.length : Nat) : Int) + 2)), 0⟩ : D.Ins), (⟨2, r152.1, r158.1, 0⟩ : D.Ins)] : List D.Ins) (fun _ => by kernel_rfl) rfl (fun A164 w165 P13 e166 => ?_)
   have N13_1 := P13.apart_old O1.lt
   have N11_13 := Own.apart2_new O11 P13 (Nat.le_refl _)
   have O1 := O1.ext e166
   have O11 := O11.ext e166
   have O13 := P13.mono hB.size
   have hB := hB.then e166
   obtain ⟨hl171, H⟩ := H
   refine appOwn slt24 slt24.under O11 O13.row hB.size rfl (by first | rfl | omega | (simp; done) | (simp; omega)) hl171 (fun A167 c168 w169 P11 e170 => ?_)
   have N11_1_ := Apart.app (O11.apart_type O1 (by decide)) e170 O1.lt
   have O1 := O1.app e170 (O11.apart_type O1 (by decide))
   have N13_11_ := Apart2.app (N11_13).symm e170 O13
   have O13 := O13.app e170 (N11_13).symm
   have N11_1 := N11_1_
   have N13_11 := N13_11_
   have hB := hB.app e170 (fun g h_ => Or.inl (O11.low g h_))
   have O11 := P11
   obtain ⟨m172, hm173, hJ174⟩ := H
   exact ⟨m172, hm173, (xs117 ++ ([(⟨10, r146.1, (IntKind.wrap .i64 (((xs117.length : Nat) : Int) + 2)), 0⟩ : D.Ins), (⟨2, r152.1, r158.1, 0⟩ : D.Ins)] : List D.Ins)), (IntKind.wrap .i64 (i103 + 1)), r158.2.i, r158.2.h, A167, c168, rfl, hJ174, hB, O11, O1⟩
  obtain rfl := hr.trans H.symm
  exact ⟨A101, c102, rfl, O9, O1, rfl, hB⟩
def spec_DrawShort.vc (A0 : Option Addr) (n0 : Nat) (c0 : Nat) (w : World) (K : Value → World → Prop) : Prop :=
  Cll Tryz.prog 54 #[(.slice A0 n0 c0)] w fun v21 w22 => (∃ (p23 : Addr), v21 = (.pointer (some p23)) ∧ Cll Tryz.prog 70 #[(.pointer (some p23))] w22 fun v24 w25 => (∃ (A26 : Option Addr) (n27 : Nat) (c28 : Nat), v24 = (.slice A26 n27 c28) ∧ K (.slice A26 n27 c28) w25))

def spec_DrawShort.ann : Ann := (.seq .l (.seq .l .l))

theorem spec_DrawShort.con {xs0 : List Int} {A0 : Option Addr} {c0 : Nat} {r : List D.Ins} {w : World} (hp : M.spec_DrawShort_pre xs0) (hr : r = M.spec_DrawShort xs0) (R0 : Row el5 w A0 xs0) (hc0 : xs0.length ≤ c0) :
    Cll Tryz.prog 25 #[(.slice A0 xs0.length c0)] w (fun v_ w_ => ∃ (A0_ : Option Addr) (c0_ : Nat), v_ = (.slice A0_ r.length c0_) ∧ Own el91 w_ w.heap.size A0_ c0_ r ∧ Ext w w_) := by
  have H := wp.spec_DrawShort.math xs0 hp
  have hB := Ext.refl w
  refine beginF mixed (fn := Tryz.f25) (by kernel_rfl) (by kernel_rfl) (an := spec_DrawShort.ann) (V := spec_DrawShort.vc A0 xs0.length c0) (by kernel_rfl) ?_
  unfold spec_DrawShort.vc
  unfold wp.spec_DrawShort at H
  obtain ⟨hp23, H⟩ := H
  obtain ⟨r21, hr22, H⟩ := callO H
  refine (spec_l01New.con hp23 hr22 (R0.ext hB) hc0).mono ?_
  rintro _ w24 ⟨g2_, rfl, P2, hq26, L2, e25⟩
  rw [hq26] at P2
  have L2 := Nat.le_trans hB.size L2
  have O2 := P2
  have hB := ethen hB e25
  refine ⟨(⟨g2_, 0, none⟩ : Addr), rfl, ?_⟩
  obtain ⟨hp29, H⟩ := H
  obtain ⟨r27, hr28, H⟩ := callO H
  refine (spec_l18Short.con hp29 hr28 O2 (R0.ext hB) hc0 (fun hx_ => (fun g h_ hS_ => Nat.not_le.2 (R0.old hx_ g h_) (box_low L2 _ hS_)))).mono ?_
  rintro _ w30 ⟨A32, c33, rfl, P3, Q2, hq34, e31⟩
  rw [hq34] at Q2
  have N3_2 := P3.apart_old O2.lt
  have O3 := P3.mono hB.size
  have hB := Chg.ext hB e31 (box_low L2)
  have O2 := Q2
  refine ⟨A32, r27.1.length, c33, rfl, ?_⟩
  obtain rfl := hr.trans H.symm
  exact ⟨A32, c33, rfl, O3, hB⟩
def impl_CountOps.vc (A0 : Option Addr) (n0 : Nat) (c0 : Nat) (x1 : Int) (w : World) (K : Value → World → Prop) : Prop :=
  LoopT (σ := Int × Int × Unit) (fun z21 w22 next23 => bcase (decide (z21.2.1 < ((n0 : Nat) : Int))) (((0 : Int) ≤ z21.2.1 ∧ z21.2.1 < ((n0 : Nat) : Int) ∧ ∃ a24 : Addr, A0 = some a24 ∧ ∃ (n25 : Int), w22.cell? ((a24.add ((z21.2.1.toNat) * 4)).add 0) = some (.int .i64 n25) ∧ ∃ (n26 : Int), w22.cell? ((a24.add ((z21.2.1.toNat) * 4)).add 1) = some (.int .i64 n26) ∧ ∃ (n27 : Int), w22.cell? ((a24.add ((z21.2.1.toNat) * 4)).add 2) = some (.int .i64 n27) ∧ ∃ (n28 : Int), w22.cell? ((a24.add ((z21.2.1.toNat) * 4)).add 3) = some (.int .i64 n28) ∧ newK w22 (.cells #[(.int .i64 0), (.int .i64 0), (.int .i64 0), (.int .i64 0)] 91) fun g29 w30 => stCells (⟨g29, 0, none⟩ : Addr) [(.int .i64 n25), (.int .i64 n26), (.int .i64 n27), (.int .i64 n28)] 0 w30 fun w31 => ∃ (n32 : Int), w31.cell? (((⟨g29, 0, none⟩ : Addr).add 0).add 0) = some (.int .i64 n32) ∧ bcase (n32 == x1) (next23 ((IntKind.wrap .i64 (z21.1 + 1)), (IntKind.wrap .i64 (z21.2.1 + 1)), ()) w31) (next23 (z21.1, (IntKind.wrap .i64 (z21.2.1 + 1)), ()) w31))) (K (.int .i64 z21.1) w22)) (0, 0, ()) w

def impl_CountOps.ann : Ann := (.seq .l (.seq .l (.seq (.seq .l (.one (.loop [(5, .int .i64), (10, .int .i64)] (.seq .l (.seq (.two .l .l) (.seq (.one (.seq .l (.seq .l (.two .l .l)))) .l)))))) (.seq .l .l))))

theorem impl_CountOps.con {xs0 : List D.Ins} {A0 : Option Addr} {c0 : Nat} {x1 : Int} {r : Int} {w : World} (hp : M.impl_CountOps_pre xs0 x1) (hr : r = M.impl_CountOps xs0 x1) (R0 : Row el91 w A0 xs0) (hc0 : xs0.length ≤ c0) :
    Cll Tryz.prog 30 #[(.slice A0 xs0.length c0), (.int .i64 x1)] w (fun v_ w_ => v_ = (.int .i64 r) ∧ Ext w w_) := by
  have H := wp.impl_CountOps.math xs0 x1 hp
  have hB := Ext.refl w
  refine beginF mixed (fn := Tryz.f30) (by kernel_rfl) (by kernel_rfl) (an := impl_CountOps.ann) (V := impl_CountOps.vc A0 xs0.length c0 x1) (by kernel_rfl) ?_
  unfold impl_CountOps.vc
  unfold wp.impl_CountOps at H
  obtain ⟨J24, ⟨m47, hJ46⟩, hS25⟩ := H
  refine ⟨fun m_ z_ w_ => ∃ (i21 : Int) (i22 : Int), z_ = (i21, i22, ()) ∧ J24 m_ (i21, i22, ()) ∧ Ext w w_, ⟨m47, 0, 0, rfl, hJ46, hB⟩, ?_⟩
  rintro m23 _ w27 ⟨i21, i22, rfl, hJ48, hB⟩
  have H := hS25 m23 _ hJ48
  clear hS25 hJ48
  try dsimp only at H ⊢
  refine brc H (fun hc44 H => ?_) (fun hc44 H => ?_)
  ·obtain ⟨⟨h0_31, h1_32⟩, H⟩ := H
   obtain ⟨a29, ha30, hat28⟩ := Row.at (R0.ext hB) h0_31 h1_32
   refine ⟨h0_31, h1_32, a29, ha30, _, (hat28 0 _ rfl), _, (hat28 1 _ rfl), _, (hat28 2 _ rfl), _, (hat28 3 _ rfl), ?_⟩
   refine newBlk (fun g2_ w33 L2 P2 e34 => ?_)
   have O2 := P2
   have L2 := Nat.le_trans hB.size L2
   have hB := ethen hB e34
   refine stBlk O2 (o := 0) (cs' := #[(.int .i64 ((rd xs0 i22).Op)), (.int .i64 ((rd xs0 i22).A)), (.int .i64 ((rd xs0 i22).B)), (.int .i64 ((rd xs0 i22).C))]) rfl rfl (Nat.le_of_ble_eq_true rfl) rfl (fun w35 P2 e36 => ?_)
   have hB := echg hB e36 L2
   have O2 := P2
   refine ⟨_, (O2.at 0 rfl rfl), ?_⟩
   refine brc H (fun hc43 H => ?_) (fun hc43 H => ?_)
   ·obtain ⟨m37, hm38, hJ39⟩ := H
    exact ⟨m37, hm38, (IntKind.wrap .i64 (i21 + 1)), (IntKind.wrap .i64 (i22 + 1)), rfl, hJ39, hB⟩
   obtain ⟨m40, hm41, hJ42⟩ := H
   exact ⟨m40, hm41, i21, (IntKind.wrap .i64 (i22 + 1)), rfl, hJ42, hB⟩
  obtain rfl := hr.trans H.symm
  exact ⟨rfl, hB⟩
def laws_FnPredicates.vc (A0 : Option Addr) (n0 : Nat) (c0 : Nat) (w : World) (K : Value → World → Prop) : Prop :=
  Cll Tryz.prog 12 #[(.slice A0 n0 c0)] w fun v21 w22 => (∃ (b23 : Bool), v21 = (.bool b23) ∧ bcase b23 (K (.bool true) w22) (Cll Tryz.prog 25 #[(.slice A0 n0 c0)] w22 fun v24 w25 => (∃ (A26 : Option Addr) (n27 : Nat) (c28 : Nat), v24 = (.slice A26 n27 c28) ∧ Cll Tryz.prog 18 #[(.slice A0 n0 c0)] w25 fun v29 w30 => (∃ (A31 : Option Addr) (n32 : Nat) (c33 : Nat), v29 = (.slice A31 n32 c33) ∧ Cll Tryz.prog 26 #[(.slice A26 n27 c28)] w30 fun v34 w35 => (∃ u36 : Value, (∃ (A37 : Option Addr) (n38 : Nat) (c39 : Nat), u36 = (.slice A37 n38 c39) ∧ ∃ u40 : Value, (∃ (n41 : Int), u40 = (.int .i64 n41) ∧ v34 = (.tuple #[(.slice A37 n38 c39), (.int .i64 n41)]) ∧ Cll Tryz.prog 27 #[(.slice A37 n38 c39)] w35 fun v42 w43 => (∃ (b44 : Bool), v42 = (.bool b44) ∧ bcase b44 (bcase (((n38 : Nat) : Int) == ((n27 : Nat) : Int)) (((2 : Int) ≠ 0 ∧ bcase (decide (n41 ≤ (IntKind.wrap .i64 (Int.tdiv ((n27 : Nat) : Int) 2)))) (((0 : Int) ≤ 0 ∧ 0 < ((n32 : Nat) : Int) ∧ ∃ a45 : Addr, A31 = some a45 ∧ ∃ (n46 : Int), w43.cell? ((a45.add (((0 : Int).toNat) * 1)).add 0) = some (.int .i64 n46) ∧ ((3 : Int) ≠ 0 ∧ Cll Tryz.prog 28 #[(.slice A26 n27 c28), (.slice A37 n38 c39), (.int .i64 (Int.tmod n46 3))] w43 fun v47 w48 => (∃ (n49 : Int), v47 = (.int .i64 n49) ∧ bcase (n49 == 0) (((0 : Int) ≤ 0 ∧ 0 < ((n32 : Nat) : Int) ∧ ∃ a50 : Addr, A31 = some a50 ∧ ∃ (n51 : Int), w48.cell? ((a50.add (((0 : Int).toNat) * 1)).add 0) = some (.int .i64 n51) ∧ ((3 : Int) ≠ 0 ∧ Cll Tryz.prog 29 #[(.slice A26 n27 c28), (.int .i64 (Int.tmod n51 3))] w48 fun v52 w53 => (∃ (n54 : Int), v52 = (.int .i64 n54) ∧ bcase (decide (n54 ≥ 0)) (Cll Tryz.prog 30 #[(.slice A37 n38 c39), (.int .i64 10)] w53 fun v55 w56 => (∃ (n57 : Int), v55 = (.int .i64 n57) ∧ Cll Tryz.prog 30 #[(.slice A26 n27 c28), (.int .i64 10)] w56 fun v58 w59 => (∃ (n60 : Int), v58 = (.int .i64 n60) ∧ K (.bool (n57 == (IntKind.wrap .i64 (n60 - n41)))) w59))) (K (.bool false) w53))))) (K (.bool false) w48))))) (K (.bool false) w43))) (K (.bool false) w43)) (K (.bool false) w43)))))))))

def laws_FnPredicates.ann : Ann := (.seq .l (.seq (.seq .l (.two (.seq .l .l) .l)) (.seq .l (.seq .l (.seq .l (.seq .l .l))))))

theorem laws_FnPredicates.con {xs0 : List Int} {A0 : Option Addr} {c0 : Nat} {r : Bool} {w : World} (hp : M.laws_FnPredicates_pre xs0) (hr : r = M.laws_FnPredicates xs0) (R0 : Row el5 w A0 xs0) (hc0 : xs0.length ≤ c0) :
    Cll Tryz.prog 6 #[(.slice A0 xs0.length c0)] w (fun v_ w_ => v_ = (.bool r) ∧ Ext w w_) := by
  have H := wp.laws_FnPredicates.math xs0 hp
  have hB := Ext.refl w
  refine beginF mixed (fn := Tryz.f6) (by kernel_rfl) (by kernel_rfl) (an := laws_FnPredicates.ann) (V := laws_FnPredicates.vc A0 xs0.length c0) (by kernel_rfl) ?_
  unfold laws_FnPredicates.vc
  unfold wp.laws_FnPredicates at H
  obtain ⟨r21, hr22, H⟩ := callO H
  refine (laws_big.con hr22 (R0.ext hB) hc0).mono ?_
  rintro _ w24 ⟨rfl, e25⟩
  have hB := ethen hB e25
  refine ⟨r21, rfl, ?_⟩
  refine brc H (fun hc90 H => ?_) (fun hc90 H => ?_)
  ·obtain rfl := hr.trans H.symm
   exact ⟨rfl, hB⟩
  obtain ⟨hp28, H⟩ := H
  obtain ⟨r26, hr27, H⟩ := callO H
  refine (spec_DrawShort.con hp28 hr27 (R0.ext hB) hc0).mono ?_
  rintro _ w29 ⟨A31, c32, rfl, P2, e30⟩
  have O2 := P2.mono hB.size
  have hB := ethen hB e30
  refine ⟨A31, r26.length, c32, rfl, ?_⟩
  obtain ⟨hp35, H⟩ := H
  obtain ⟨r33, hr34, H⟩ := callO H
  refine (spec_DrawPlaces.con hp35 hr34 (R0.ext hB) hc0).mono ?_
  rintro _ w36 ⟨A38, c39, rfl, P3, e37⟩
  have N2_3 := Own.apart2_new O2 P3 (Nat.le_refl _)
  have O2 := O2.ext e37
  have O3 := P3.mono hB.size
  have hB := ethen hB e37
  refine ⟨A38, r33.length, c39, rfl, ?_⟩
  obtain ⟨hp42, H⟩ := H
  obtain ⟨r40, hr41, H⟩ := callO H
  refine (impl_PredicateAll.con hp42 hr41 O2.row O2.le).mono ?_
  rintro _ w43 ⟨A45, c46, rfl, P4, e44⟩
  have N2_4 := Own.apart2_new O2 P4 (Nat.le_refl _)
  have N3_4 := Own.apart2_new O3 P4 (Nat.le_refl _)
  have O2 := O2.ext e44
  have O3 := O3.ext e44
  have O4 := P4.mono hB.size
  have hB := ethen hB e44
  refine ⟨(.slice A45 r40.1.length c46), A45, r40.1.length, c46, rfl, (.int .i64 r40.2), r40.2, rfl, rfl, ?_⟩
  obtain ⟨hp49, H⟩ := H
  obtain ⟨r47, hr48, H⟩ := callO H
  refine (impl_IsQuiet.con hp49 hr48 O4.row O4.le).mono ?_
  rintro _ w50 ⟨rfl, e51⟩
  have O2 := O2.ext e51
  have O3 := O3.ext e51
  have O4 := O4.ext e51
  have hB := ethen hB e51
  refine ⟨r47, rfl, ?_⟩
  refine brc H (fun hc89 H => ?_) (fun hc89 H => ?_)
  ·refine brc H (fun hc88 H => ?_) (fun hc88 H => ?_)
   ·refine ⟨by decide, ?_⟩
    refine brc H (fun hc87 H => ?_) (fun hc87 H => ?_)
    ·obtain ⟨⟨h0_56, h1_57⟩, H⟩ := H
     obtain ⟨a54, ha55, hat53⟩ := Row.at O3.row h0_56 h1_57
     refine ⟨h0_56, h1_57, a54, ha55, _, (hat53 0 _ rfl), by decide, ?_⟩
     obtain ⟨hp61, H⟩ := H
     obtain ⟨r59, hr60, H⟩ := callO H
     refine (impl_DifferingLanes.con hp61 hr60 O2.row O2.le O4.row O4.le).mono ?_
     rintro _ w62 ⟨rfl, e63⟩
     have O2 := O2.ext e63
     have O3 := O3.ext e63
     have O4 := O4.ext e63
     have hB := ethen hB e63
     refine ⟨r59, rfl, ?_⟩
     refine brc H (fun hc86 H => ?_) (fun hc86 H => ?_)
     ·obtain ⟨⟨h0_67, h1_68⟩, H⟩ := H
      obtain ⟨a65, ha66, hat64⟩ := Row.at O3.row h0_67 h1_68
      refine ⟨h0_67, h1_68, a65, ha66, _, (hat64 0 _ rfl), by decide, ?_⟩
      obtain ⟨hp72, H⟩ := H
      obtain ⟨r70, hr71, H⟩ := callO H
      refine (impl_SavedSplits.con hp72 hr71 O2.row O2.le).mono ?_
      rintro _ w73 ⟨rfl, e74⟩
      have O2 := O2.ext e74
      have O3 := O3.ext e74
      have O4 := O4.ext e74
      have hB := ethen hB e74
      refine ⟨r70, rfl, ?_⟩
      refine brc H (fun hc85 H => ?_) (fun hc85 H => ?_)
      ·obtain ⟨hp77, H⟩ := H
       obtain ⟨r75, hr76, H⟩ := callO H
       refine (impl_CountOps.con hp77 hr76 O4.row O4.le).mono ?_
       rintro _ w78 ⟨rfl, e79⟩
       have O2 := O2.ext e79
       have O3 := O3.ext e79
       have O4 := O4.ext e79
       have hB := ethen hB e79
       refine ⟨r75, rfl, ?_⟩
       obtain ⟨hp82, H⟩ := H
       obtain ⟨r80, hr81, H⟩ := callO H
       refine (impl_CountOps.con hp82 hr81 O2.row O2.le).mono ?_
       rintro _ w83 ⟨rfl, e84⟩
       have O2 := O2.ext e84
       have O3 := O3.ext e84
       have O4 := O4.ext e84
       have hB := ethen hB e84
       refine ⟨r80, rfl, ?_⟩
       obtain rfl := hr.trans H.symm
       exact ⟨rfl, hB⟩
      obtain rfl := hr.trans H.symm
      exact ⟨rfl, hB⟩
     obtain rfl := hr.trans H.symm
     exact ⟨rfl, hB⟩
    obtain rfl := hr.trans H.symm
    exact ⟨rfl, hB⟩
   obtain rfl := hr.trans H.symm
   exact ⟨rfl, hB⟩
  obtain rfl := hr.trans H.symm
  exact ⟨rfl, hB⟩
end Go.V
