import Derived.Test.YtnbkmenlaogblaaMath22
import Derived.Test.YtnbkmenlaogblaaSeat
import Derived.Test.YtnbkmenlaogblaaCon17
namespace Go.V
open Go.Proofs
set_option linter.unusedVariables false
set_option linter.unusedSimpArgs false
set_option maxRecDepth 100000

def laws_markFrameS.vc (A0 : Option Addr) (n0 : Nat) (c0 : Nat) (x1 : Int) (w : World) (K : Value → World → Prop) : Prop :=
  LoopT (σ := Int × Int × Unit) (fun z21 w22 next23 => bcase (decide (z21.2.1 < ((n0 : Nat) : Int))) (((0 : Int) ≤ z21.2.1 ∧ z21.2.1 < ((n0 : Nat) : Int) ∧ ∃ a24 : Addr, A0 = some a24 ∧ stCells ((a24.add ((z21.2.1.toNat) * 3)).add 0) [(.int .i64 z21.1)] 0 w22 fun w25 => ((0 : Int) ≤ z21.2.1 ∧ z21.2.1 < ((n0 : Nat) : Int) ∧ ∃ a26 : Addr, A0 = some a26 ∧ stCells ((a26.add ((z21.2.1.toNat) * 3)).add 1) [(.int .i64 (IntKind.wrap .i64 (z21.1 + 1)))] 0 w25 fun w27 => ((0 : Int) ≤ z21.2.1 ∧ z21.2.1 < ((n0 : Nat) : Int) ∧ ∃ a28 : Addr, A0 = some a28 ∧ stCells ((a28.add ((z21.2.1.toNat) * 3)).add 2) [(.int .i64 (IntKind.wrap .i64 ((IntKind.wrap .i64 (z21.1 + 1)) + 1)))] 0 w27 fun w29 => next23 ((IntKind.wrap .i64 ((IntKind.wrap .i64 ((IntKind.wrap .i64 (z21.1 + 1)) + 1)) + 1)), (IntKind.wrap .i64 (z21.2.1 + 1)), ()) w29)))) (K (.int .i64 z21.1) w22)) (x1, 0, ()) w

def laws_markFrameS.ann : Ann := (.seq .l (.seq (.seq .l (.one (.loop [(1, .int .i64), (5, .int .i64)] (.seq (.seq .l (.two .l .l)) (.seq (.one (.seq .l (.seq .l (.seq .l (.seq .l (.seq .l .l)))))) .l))))) (.seq .l .l)))

theorem laws_markFrameS.vc_eq (A0 : Option Addr) (n0 : Nat) (c0 : Nat) (x1 : Int) (w : World) (K : Value → World → Prop) : vcF Try.prog Try.f123 laws_markFrameS.ann [(.slice A0 n0 c0), (.int .i64 x1)] K w = laws_markFrameS.vc A0 n0 c0 x1 w K := by kernel_rfl

theorem laws_markFrameS.start {A0 : Option Addr} {n0 : Nat} {c0 : Nat} {x1 : Int} {w : World} {K : Value → World → Prop} (h : laws_markFrameS.vc A0 n0 c0 x1 w K) : Cll Try.prog 123 #[(.slice A0 n0 c0), (.int .i64 x1)] w K :=
  vcF_sound mixed (fn := Try.f123) (by kernel_rfl) (by kernel_rfl) (an := laws_markFrameS.ann) (args := [(.slice A0 n0 c0), (.int .i64 x1)]) (by rw [laws_markFrameS.vc_eq]; exact h)

theorem laws_markFrameS.con {xs0 : List D.Frame} {A0 : Option Addr} {c0 : Nat} {x1 : Int} {r : Int × (List D.Frame)} {w : World} (hp : M.laws_markFrameS_pre xs0 x1) (hr : r = M.laws_markFrameS xs0 x1) (O1 : Own el132 w 0 A0 c0 xs0) :
    Cll Try.prog 123 #[(.slice A0 xs0.length c0), (.int .i64 x1)] w (fun v_ w_ => v_ = (.int .i64 r.1) ∧ Own el132 w_ 0 A0 c0 r.2 ∧ r.2.length = xs0.length ∧ Chg (InB A0) w w_) := by
  have H := wp.laws_markFrameS.math xs0 x1 hp
  have hB := Chg.refl (InB A0) w
  refine laws_markFrameS.start ?_
  unfold laws_markFrameS.vc
  unfold wp.laws_markFrameS at H
  obtain ⟨J59, ⟨m95, hJ94⟩, hS60⟩ := H
  refine ⟨fun m_ z_ w_ => ∃ (i54 : Int) (i55 : Int) (xs56 : List D.Frame), z_ = (i54, i55, ()) ∧ J59 m_ (i54, i55, xs56, ()) ∧ Chg (InB A0) w w_ ∧ Own el132 w_ 0 A0 c0 xs56 ∧ xs0.length = xs56.length, ⟨m95, x1, 0, xs0, rfl, hJ94, hB, O1, (by first | rfl | assumption | (simp; done) | (simp; omega) | (simp; assumption))⟩, ?_⟩
  rintro m58 _ w62 ⟨i54, i55, xs56, rfl, hJ96, hB, O1, hn57⟩
  have H := hS60 m58 _ hJ96
  clear hS60 hJ96
  dsimp only at H ⊢
  refine bcase_mk (fun hc92 => ?_) (fun hc92 => ?_)
  · have H := (bcase_iff.1 H).1 hc92
    obtain ⟨⟨h0_66, h1_67⟩, H⟩ := H
    obtain ⟨a64, ha65, hat63⟩ := Row.at O1.row h0_66 h1_67
    refine ⟨h0_66, (by first | exact h1_67 | omega | (simp at h1_67 ⊢; omega)), a64, ha65, ?_⟩
    refine Own.storeAt O1 ha65 h0_66 h1_67 0 [(.int .i64 i54)] (⟨i54, (rd xs56 i55).Stop, (rd xs56 i55).Mask⟩ : D.Frame) rfl (Nat.le_of_ble_eq_true rfl) rfl (fun w68 P1 e69 hb70 => ?_)
    have hB := hB.chgb e69 (Or.inr ⟨_, ha65, rfl⟩)
    have O1 := P1
    obtain ⟨⟨h0_74, h1_75⟩, H⟩ := H
    obtain ⟨a72, ha73, hat71⟩ := Row.at O1.row h0_74 h1_75
    refine ⟨h0_74, (by first | exact h1_75 | omega | (simp at h1_75 ⊢; omega)), a72, ha73, ?_⟩
    have hrd79 := rd_set h0_74 h1_75
    refine Own.storeAt O1 ha73 h0_74 h1_75 1 [(.int .i64 (IntKind.wrap .i64 (i54 + 1)))] (⟨i54, (IntKind.wrap .i64 (i54 + 1)), (rd xs56 i55).Mask⟩ : D.Frame) (by rw [hrd79]; rfl) (Nat.le_of_ble_eq_true rfl) rfl (fun w76 P1 e77 hb78 => ?_)
    rw [List.set_set] at P1
    have hB := hB.chgb e77 (Or.inr ⟨_, ha73, rfl⟩)
    have O1 := P1
    obtain ⟨⟨h0_83, h1_84⟩, H⟩ := H
    obtain ⟨a81, ha82, hat80⟩ := Row.at O1.row h0_83 h1_84
    refine ⟨h0_83, (by first | exact h1_84 | omega | (simp at h1_84 ⊢; omega)), a81, ha82, ?_⟩
    have hrd88 := rd_set h0_83 h1_84
    refine Own.storeAt O1 ha82 h0_83 h1_84 2 [(.int .i64 (IntKind.wrap .i64 ((IntKind.wrap .i64 (i54 + 1)) + 1)))] (⟨i54, (IntKind.wrap .i64 (i54 + 1)), (IntKind.wrap .i64 ((IntKind.wrap .i64 (i54 + 1)) + 1))⟩ : D.Frame) (by rw [hrd88]; rfl) (Nat.le_of_ble_eq_true rfl) rfl (fun w85 P1 e86 hb87 => ?_)
    rw [List.set_set] at P1
    have hB := hB.chgb e86 (Or.inr ⟨_, ha82, rfl⟩)
    have O1 := P1
    obtain ⟨m89, hm90, hJ91⟩ := H
    exact ⟨m89, hm90, (IntKind.wrap .i64 ((IntKind.wrap .i64 ((IntKind.wrap .i64 (i54 + 1)) + 1)) + 1)), (IntKind.wrap .i64 (i55 + 1)), (List.set xs56 (i55.toNat) (⟨i54, (IntKind.wrap .i64 (i54 + 1)), (IntKind.wrap .i64 ((IntKind.wrap .i64 (i54 + 1)) + 1))⟩ : D.Frame)), rfl, hJ91, hB, O1, (by first | rfl | assumption | (simp; done) | (simp; omega) | (simp; assumption))⟩
  · have H := (bcase_iff.1 H).2 hc92
    obtain rfl := hr.trans H.symm
    exact ⟨rfl, O1, (by first | (simp only [List.length_set]; done) | (simp only [List.length_set, ← hn57]; done) | (simp; done) | (simp; omega) | omega), hB⟩

def laws_markWarpS.vc (A0 : Option Addr) (n0 : Nat) (c0 : Nat) (x1 : Int) (w : World) (K : Value → World → Prop) : Prop :=
  LoopT (σ := Int × Int × Unit) (fun z21 w22 next23 => bcase (decide (z21.2.1 < ((n0 : Nat) : Int))) (((0 : Int) ≤ z21.2.1 ∧ z21.2.1 < ((n0 : Nat) : Int) ∧ ∃ a24 : Addr, A0 = some a24 ∧ stCells ((a24.add ((z21.2.1.toNat) * 3)).add 0) [(.int .i64 z21.1)] 0 w22 fun w25 => ((0 : Int) ≤ z21.2.1 ∧ z21.2.1 < ((n0 : Nat) : Int) ∧ ∃ a26 : Addr, A0 = some a26 ∧ ∃ (A27 : Option Addr) (n28 : Nat) (c29 : Nat), w25.cell? (((a26.add ((z21.2.1.toNat) * 3)).add 1).add 0) = some (.slice A27 n28 c29) ∧ Cll Try.prog 123 #[(.slice A27 n28 c29), (.int .i64 (IntKind.wrap .i64 (z21.1 + 1)))] w25 fun v30 w31 => (∃ (n32 : Int), v30 = (.int .i64 n32) ∧ ((0 : Int) ≤ z21.2.1 ∧ z21.2.1 < ((n0 : Nat) : Int) ∧ ∃ a33 : Addr, A0 = some a33 ∧ ∃ (A34 : Option Addr) (n35 : Nat) (c36 : Nat), w31.cell? (((a33.add ((z21.2.1.toNat) * 3)).add 2).add 0) = some (.slice A34 n35 c36) ∧ Cll Try.prog 27 #[(.slice A34 n35 c36), (.int .i64 n32)] w31 fun v37 w38 => (∃ (n39 : Int), v37 = (.int .i64 n39) ∧ next23 (n39, (IntKind.wrap .i64 (z21.2.1 + 1)), ()) w38)))))) (K (.int .i64 z21.1) w22)) (x1, 0, ()) w

def laws_markWarpS.ann : Ann := (.seq .l (.seq (.seq .l (.one (.loop [(1, .int .i64), (5, .int .i64)] (.seq (.seq .l (.two .l .l)) (.seq (.one (.seq .l (.seq .l (.seq .l .l)))) .l))))) (.seq .l .l)))

theorem laws_markWarpS.vc_eq (A0 : Option Addr) (n0 : Nat) (c0 : Nat) (x1 : Int) (w : World) (K : Value → World → Prop) : vcF Try.prog Try.f68 laws_markWarpS.ann [(.slice A0 n0 c0), (.int .i64 x1)] K w = laws_markWarpS.vc A0 n0 c0 x1 w K := by kernel_rfl

theorem laws_markWarpS.start {A0 : Option Addr} {n0 : Nat} {c0 : Nat} {x1 : Int} {w : World} {K : Value → World → Prop} (h : laws_markWarpS.vc A0 n0 c0 x1 w K) : Cll Try.prog 68 #[(.slice A0 n0 c0), (.int .i64 x1)] w K :=
  vcF_sound mixed (fn := Try.f68) (by kernel_rfl) (by kernel_rfl) (an := laws_markWarpS.ann) (args := [(.slice A0 n0 c0), (.int .i64 x1)]) (by rw [laws_markWarpS.vc_eq]; exact h)

theorem laws_markWarpS.con {xs0 : List D.Warp} {A0 : Option Addr} {c0 : Nat} {F0 : Nat → Prop} {x1 : Int} {r : Int × (List D.Warp)} {w : World} (hp : M.laws_markWarpS_pre xs0 x1) (hr : r = M.laws_markWarpS xs0 x1) (O1 : OwnW 102 el132 el3 w 0 F0 A0 c0 xs0) :
    Cll Try.prog 68 #[(.slice A0 xs0.length c0), (.int .i64 x1)] w (fun v_ w_ => v_ = (.int .i64 r.1) ∧ OwnW 102 el132 el3 w_ 0 F0 A0 c0 r.2 ∧ r.2.length = xs0.length ∧ Chg (InW A0 F0) w w_) := by
  have H := wp.laws_markWarpS.math xs0 x1 hp
  have hB := Chg.refl (InW A0 F0) w
  refine laws_markWarpS.start ?_
  unfold laws_markWarpS.vc
  unfold wp.laws_markWarpS at H
  obtain ⟨J78, ⟨m132, hJ131⟩, hS79⟩ := H
  refine ⟨fun m_ z_ w_ => ∃ (i72 : Int) (i73 : Int) (xs74 : List D.Warp), z_ = (i72, i73, ()) ∧ J78 m_ (i72, i73, xs74, ()) ∧ Chg (InW A0 F0) w w_ ∧ OwnW 102 el132 el3 w_ 0 F0 A0 c0 xs74 ∧ xs0.length = xs74.length, ⟨m132, x1, 0, xs0, rfl, hJ131, hB, O1, (by first | rfl | assumption | (simp; done) | (simp; omega) | (simp; assumption))⟩, ?_⟩
  rintro m77 _ w81 ⟨i72, i73, xs74, rfl, hJ133, hB, O1, hn76⟩
  have H := hS79 m77 _ hJ133
  clear hS79 hJ133
  dsimp only at H ⊢
  refine bcase_mk (fun hc129 => ?_) (fun hc129 => ?_)
  · have H := (bcase_iff.1 H).1 hc129
    obtain ⟨⟨h0_85, h1_86⟩, H⟩ := H
    obtain ⟨a83, ha84, _⟩ := RowW.at O1.row h0_85 h1_86
    refine ⟨h0_85, (by first | exact h1_86 | omega | (simp at h1_86 ⊢; omega)), a83, ha84, ?_⟩
    refine OwnW.storeNum O1 ha84 h0_85 h1_86 i72 (by decide) (by decide) (fun w87 P1 e88 hb89 => ?_)
    have hB := hB.chgb e88 (Or.inr (Or.inl ⟨_, ha84, rfl⟩))
    have O1 := P1
    obtain ⟨⟨h0_93, h1_94⟩, H⟩ := H
    obtain ⟨a91, ha92, _⟩ := RowW.at O1.row h0_93 h1_94
    refine ⟨h0_93, (by first | exact h1_94 | omega | (simp at h1_94 ⊢; omega)), a91, ha92, ?_⟩
    obtain ⟨A98, c99, A100, c101, f95, f96, f97⟩ := OwnW.cellsAt O1 ha92 h0_93 h1_94
    have C4 := f96
    refine ⟨_, _, _, f96, ?_⟩
    obtain ⟨U4, V4, W4⟩ := OwnW.sub1 O1 ha92 h0_93 h1_94 C4
    obtain ⟨hp104, H⟩ := H
    obtain ⟨r102, hr103⟩ : ∃ r_, r_ = M.laws_markFrameS ((rd (List.set xs74 (i73.toNat) (⟨i72, (rd xs74 i73).Frames, (rd xs74 i73).Regs⟩ : D.Warp)) i73).Frames) (IntKind.wrap .i64 (i72 + 1)) := ⟨_, rfl⟩
    have H := H r102 hr103
    refine (cllArgs (by first | (simp only [List.length_set]; done) | (simp; done)) (laws_markFrameS.con hp104 hr103 (U4.mono (Nat.zero_le _)))).mono ?_
    rintro _ w105 ⟨rfl, Q4, hl107, e106⟩
    have hB := hB.chg e106 (fun g h_ => Or.inr (Or.inr (V4 g h_)))
    have O1 := W4 _ _ e106 Q4 hl107
    refine ⟨r102.1, rfl, ?_⟩
    obtain ⟨⟨h0_111, h1_112⟩, H⟩ := H
    obtain ⟨a109, ha110, _⟩ := RowW.at O1.row h0_111 h1_112
    refine ⟨h0_111, (by first | exact h1_112 | omega | (simp at h1_112 ⊢; omega)), a109, ha110, ?_⟩
    obtain ⟨A116, c117, A118, c119, f113, f114, f115⟩ := OwnW.cellsAt O1 ha110 h0_111 h1_112
    have C5 := f115
    refine ⟨_, _, _, f115, ?_⟩
    obtain ⟨U5, V5, W5⟩ := OwnW.sub2 O1 ha110 h0_111 h1_112 C5
    obtain ⟨hp122, H⟩ := H
    obtain ⟨r120, hr121⟩ : ∃ r_, r_ = M.laws_markIntS ((rd (List.set (List.set xs74 (i73.toNat) (⟨i72, (rd xs74 i73).Frames, (rd xs74 i73).Regs⟩ : D.Warp)) (i73.toNat) (⟨(rd (List.set xs74 (i73.toNat) (⟨i72, (rd xs74 i73).Frames, (rd xs74 i73).Regs⟩ : D.Warp)) i73).Number, r102.2, (rd (List.set xs74 (i73.toNat) (⟨i72, (rd xs74 i73).Frames, (rd xs74 i73).Regs⟩ : D.Warp)) i73).Regs⟩ : D.Warp)) i73).Regs) r102.1 := ⟨_, rfl⟩
    have H := H r120 hr121
    refine (cllArgs (by first | (simp only [List.length_set]; done) | (simp; done)) (laws_markIntS.con hp122 hr121 (U5.mono (Nat.zero_le _)))).mono ?_
    rintro _ w123 ⟨rfl, Q5, hl125, e124⟩
    have hB := hB.chg e124 (fun g h_ => Or.inr (Or.inr (V5 g h_)))
    have O1 := W5 _ _ e124 Q5 hl125
    refine ⟨r120.1, rfl, ?_⟩
    obtain ⟨m126, hm127, hJ128⟩ := H
    exact ⟨m126, hm127, r120.1, (IntKind.wrap .i64 (i73 + 1)), (List.set (List.set (List.set xs74 (i73.toNat) (⟨i72, (rd xs74 i73).Frames, (rd xs74 i73).Regs⟩ : D.Warp)) (i73.toNat) (⟨(rd (List.set xs74 (i73.toNat) (⟨i72, (rd xs74 i73).Frames, (rd xs74 i73).Regs⟩ : D.Warp)) i73).Number, r102.2, (rd (List.set xs74 (i73.toNat) (⟨i72, (rd xs74 i73).Frames, (rd xs74 i73).Regs⟩ : D.Warp)) i73).Regs⟩ : D.Warp)) (i73.toNat) (⟨(rd (List.set (List.set xs74 (i73.toNat) (⟨i72, (rd xs74 i73).Frames, (rd xs74 i73).Regs⟩ : D.Warp)) (i73.toNat) (⟨(rd (List.set xs74 (i73.toNat) (⟨i72, (rd xs74 i73).Frames, (rd xs74 i73).Regs⟩ : D.Warp)) i73).Number, r102.2, (rd (List.set xs74 (i73.toNat) (⟨i72, (rd xs74 i73).Frames, (rd xs74 i73).Regs⟩ : D.Warp)) i73).Regs⟩ : D.Warp)) i73).Number, (rd (List.set (List.set xs74 (i73.toNat) (⟨i72, (rd xs74 i73).Frames, (rd xs74 i73).Regs⟩ : D.Warp)) (i73.toNat) (⟨(rd (List.set xs74 (i73.toNat) (⟨i72, (rd xs74 i73).Frames, (rd xs74 i73).Regs⟩ : D.Warp)) i73).Number, r102.2, (rd (List.set xs74 (i73.toNat) (⟨i72, (rd xs74 i73).Frames, (rd xs74 i73).Regs⟩ : D.Warp)) i73).Regs⟩ : D.Warp)) i73).Frames, r120.2⟩ : D.Warp)), rfl, hJ128, hB, O1, (by first | rfl | assumption | (simp; done) | (simp; omega) | (simp; assumption))⟩
  · have H := (bcase_iff.1 H).2 hc129
    obtain rfl := hr.trans H.symm
    exact ⟨rfl, O1, (by first | (simp only [List.length_set]; done) | (simp only [List.length_set, ← hn76]; done) | (simp; done) | (simp; omega) | omega), hB⟩

def laws_markBlock.vc (A0_0 : Option Addr) (n0_0 : Nat) (c0_0 : Nat) (A0_1 : Option Addr) (n0_1 : Nat) (c0_1 : Nat) (A0_2 : Option Addr) (n0_2 : Nat) (c0_2 : Nat) (x0_3 : Int) (x0_4 : Int) (x1 : Int) (w : World) (K : Value → World → Prop) : Prop :=
  newK w (.cells #[(.slice A0_0 n0_0 c0_0), (.slice A0_1 n0_1 c0_1), (.slice A0_2 n0_2 c0_2), (.int .i64 x0_3), (.int .i64 x0_4)] 32) fun g21 w22 => ∃ (A23 : Option Addr) (n24 : Nat) (c25 : Nat), w22.cell? (((⟨g21, 0, none⟩ : Addr).add 0).add 0) = some (.slice A23 n24 c25) ∧ Cll Try.prog 67 #[(.slice A23 n24 c25), (.int .i64 x1)] w22 fun v26 w27 => (∃ (n28 : Int), v26 = (.int .i64 n28) ∧ ∃ (A29 : Option Addr) (n30 : Nat) (c31 : Nat), w27.cell? (((⟨g21, 0, none⟩ : Addr).add 1).add 0) = some (.slice A29 n30 c31) ∧ Cll Try.prog 68 #[(.slice A29 n30 c31), (.int .i64 n28)] w27 fun v32 w33 => (∃ (n34 : Int), v32 = (.int .i64 n34) ∧ ∃ (A35 : Option Addr) (n36 : Nat) (c37 : Nat), w33.cell? (((⟨g21, 0, none⟩ : Addr).add 2).add 0) = some (.slice A35 n36 c37) ∧ Cll Try.prog 27 #[(.slice A35 n36 c37), (.int .i64 n34)] w33 fun v38 w39 => (∃ (n40 : Int), v38 = (.int .i64 n40) ∧ K (.int .i64 n40) w39)))

def laws_markBlock.ann : Ann := (.seq .l (.seq .l (.seq .l (.seq .l (.seq .l .l)))))

theorem laws_markBlock.vc_eq (A0_0 : Option Addr) (n0_0 : Nat) (c0_0 : Nat) (A0_1 : Option Addr) (n0_1 : Nat) (c0_1 : Nat) (A0_2 : Option Addr) (n0_2 : Nat) (c0_2 : Nat) (x0_3 : Int) (x0_4 : Int) (x1 : Int) (w : World) (K : Value → World → Prop) : vcF Try.prog Try.f26 laws_markBlock.ann [(.agg #[(.slice A0_0 n0_0 c0_0), (.slice A0_1 n0_1 c0_1), (.slice A0_2 n0_2 c0_2), (.int .i64 x0_3), (.int .i64 x0_4)]), (.int .i64 x1)] K w = laws_markBlock.vc A0_0 n0_0 c0_0 A0_1 n0_1 c0_1 A0_2 n0_2 c0_2 x0_3 x0_4 x1 w K := by kernel_rfl

theorem laws_markBlock.start {A0_0 : Option Addr} {n0_0 : Nat} {c0_0 : Nat} {A0_1 : Option Addr} {n0_1 : Nat} {c0_1 : Nat} {A0_2 : Option Addr} {n0_2 : Nat} {c0_2 : Nat} {x0_3 : Int} {x0_4 : Int} {x1 : Int} {w : World} {K : Value → World → Prop} (h : laws_markBlock.vc A0_0 n0_0 c0_0 A0_1 n0_1 c0_1 A0_2 n0_2 c0_2 x0_3 x0_4 x1 w K) : Cll Try.prog 26 #[(.agg #[(.slice A0_0 n0_0 c0_0), (.slice A0_1 n0_1 c0_1), (.slice A0_2 n0_2 c0_2), (.int .i64 x0_3), (.int .i64 x0_4)]), (.int .i64 x1)] w K :=
  vcF_sound mixed (fn := Try.f26) (by kernel_rfl) (by kernel_rfl) (an := laws_markBlock.ann) (args := [(.agg #[(.slice A0_0 n0_0 c0_0), (.slice A0_1 n0_1 c0_1), (.slice A0_2 n0_2 c0_2), (.int .i64 x0_3), (.int .i64 x0_4)]), (.int .i64 x1)]) (by rw [laws_markBlock.vc_eq]; exact h)

theorem laws_markBlock.con {s0 : D.Block} {A0_0 : Option Addr} {c0_0 : Nat} {A0_1 : Option Addr} {c0_1 : Nat} {F0_1 : Nat → Prop} {A0_2 : Option Addr} {c0_2 : Nat} {x1 : Int} {r : Int × (List D.Ins) × (List D.Warp) × (List Int)} {w : World} (hp : M.laws_markBlock_pre s0 x1) (hr : r = M.laws_markBlock s0 x1) (O1 : Own el76 w 0 A0_0 c0_0 s0.Code) (O2 : OwnW 102 el132 el3 w 0 F0_1 A0_1 c0_1 s0.Warps) (O3 : Own el3 w 0 A0_2 c0_2 s0.Memory) (N2_3 : Dis (InW A0_1 F0_1) (InB A0_2)) :
    Cll Try.prog 26 #[(.agg #[(.slice A0_0 s0.Code.length c0_0), (.slice A0_1 s0.Warps.length c0_1), (.slice A0_2 s0.Memory.length c0_2), (.int .i64 s0.Waiting), (.int .i64 s0.Phase)]), (.int .i64 x1)] w (fun v_ w_ => v_ = (.int .i64 r.1) ∧ Own el76 w_ 0 A0_0 c0_0 r.2.1 ∧ r.2.1.length = s0.Code.length ∧ OwnW 102 el132 el3 w_ 0 F0_1 A0_1 c0_1 r.2.2.1 ∧ r.2.2.1.length = s0.Warps.length ∧ Own el3 w_ 0 A0_2 c0_2 r.2.2.2 ∧ r.2.2.2.length = s0.Memory.length ∧ Chg (fun k_ => InB A0_0 k_ ∨ InW A0_1 F0_1 k_ ∨ InB A0_2 k_) w w_) := by
  have H := wp.laws_markBlock.math s0 x1 hp
  have hB := Chg.refl (fun k_ => InB A0_0 k_ ∨ InW A0_1 F0_1 k_ ∨ InB A0_2 k_) w
  refine laws_markBlock.start ?_
  unfold laws_markBlock.vc
  unfold wp.laws_markBlock at H
  refine newBlk (fun g4_ w21 L4 P4 e22 => ?_)
  have N1_4 := O1.apart_new L4
  have N2_4 := O2.dis_newbox L4
  have N3_4 := O3.apart_new L4
  have O1 := O1.ext e22
  have O2 := O2.ext e22
  have O3 := O3.ext e22
  have O4 := P4
  have L4 := Nat.le_trans hB.size L4
  have hB := hB.then e22
  refine ⟨_, _, _, (O4.at 0 rfl rfl), ?_⟩
  obtain ⟨hp25, H⟩ := H
  obtain ⟨r23, hr24⟩ : ∃ r_, r_ = M.laws_markInsS s0.Code x1 := ⟨_, rfl⟩
  have H := H r23 hr24
  refine (laws_markInsS.con hp25 hr24 (O1.mono (Nat.zero_le _))).mono ?_
  rintro _ w26 ⟨rfl, Q1, hl28, e27⟩
  have O2 := O2.kept e27 (OwnW.dis_type O2 O1 (by decide) (by decide) (by decide))
  have O3 := O3.chgS e27 ((Own.apart2_type O3 O1 (by decide))).inb
  have O4 := O4.chgS e27 (N1_4).inb
  have hB := hB.chg e27 (fun g h_ => Or.inr (Or.inl h_))
  have O1 := Q1
  refine ⟨r23.1, rfl, ?_⟩
  refine ⟨_, _, _, (O4.at 1 rfl rfl), ?_⟩
  obtain ⟨hp31, H⟩ := H
  obtain ⟨r29, hr30⟩ : ∃ r_, r_ = M.laws_markWarpS s0.Warps r23.1 := ⟨_, rfl⟩
  have H := H r29 hr30
  refine (laws_markWarpS.con hp31 hr30 (O2.mono (Nat.zero_le _))).mono ?_
  rintro _ w32 ⟨rfl, Q2, hl34, e33⟩
  have O1 := O1.chgS e33 ((OwnW.dis_type O2 O1 (by decide) (by decide) (by decide))).symm
  have O3 := O3.chgS e33 (N2_3).symm
  have O4 := O4.chgS e33 N2_4
  have hB := hB.chg e33 (fun g h_ => Or.inr (Or.inr (Or.inl h_)))
  have O2 := Q2
  refine ⟨r29.1, rfl, ?_⟩
  refine ⟨_, _, _, (O4.at 2 rfl rfl), ?_⟩
  obtain ⟨hp37, H⟩ := H
  obtain ⟨r35, hr36⟩ : ∃ r_, r_ = M.laws_markIntS s0.Memory r29.1 := ⟨_, rfl⟩
  have H := H r35 hr36
  refine (laws_markIntS.con hp37 hr36 (O3.mono (Nat.zero_le _))).mono ?_
  rintro _ w38 ⟨rfl, Q3, hl40, e39⟩
  have O1 := O1.chgS e39 ((Own.apart2_type O1 O3 (by decide))).inb
  have O2 := O2.kept e39 N2_3
  have O4 := O4.chgS e39 (N3_4).inb
  have hB := hB.chg e39 (fun g h_ => Or.inr (Or.inr (Or.inr h_)))
  have O3 := Q3
  refine ⟨r35.1, rfl, ?_⟩
  obtain rfl := hr.trans H.symm
  exact ⟨rfl, O1, (by first | (simp only [List.length_set]; done) | (simp only [List.length_set, hl28]; done) | (simp; done) | (simp; omega) | omega), O2, (by first | (simp only [List.length_set]; done) | (simp only [List.length_set, hl34]; done) | (simp; done) | (simp; omega) | omega), O3, (by first | (simp only [List.length_set]; done) | (simp only [List.length_set, hl40]; done) | (simp; done) | (simp; omega) | omega), hB⟩

def laws_heldInsS.vc (A0 : Option Addr) (n0 : Nat) (c0 : Nat) (x1 : Int) (w : World) (K : Value → World → Prop) : Prop :=
  LoopT (σ := Int × Int × Unit) (fun z21 w22 next23 => bcase (decide (z21.2.1 < ((n0 : Nat) : Int))) (((0 : Int) ≤ z21.2.1 ∧ z21.2.1 < ((n0 : Nat) : Int) ∧ ∃ a24 : Addr, A0 = some a24 ∧ ∃ (n25 : Int), w22.cell? (((a24.add ((z21.2.1.toNat) * 4)).add 0).add 0) = some (.int .i64 n25) ∧ bcase (n25 != z21.1) (K (.int .i64 (-1)) w22) (((0 : Int) ≤ z21.2.1 ∧ z21.2.1 < ((n0 : Nat) : Int) ∧ ∃ a26 : Addr, A0 = some a26 ∧ ∃ (n27 : Int), w22.cell? (((a26.add ((z21.2.1.toNat) * 4)).add 1).add 0) = some (.int .i64 n27) ∧ bcase (n27 != (IntKind.wrap .i64 (z21.1 + 1))) (K (.int .i64 (-1)) w22) (((0 : Int) ≤ z21.2.1 ∧ z21.2.1 < ((n0 : Nat) : Int) ∧ ∃ a28 : Addr, A0 = some a28 ∧ ∃ (n29 : Int), w22.cell? (((a28.add ((z21.2.1.toNat) * 4)).add 2).add 0) = some (.int .i64 n29) ∧ bcase (n29 != (IntKind.wrap .i64 ((IntKind.wrap .i64 (z21.1 + 1)) + 1))) (K (.int .i64 (-1)) w22) (((0 : Int) ≤ z21.2.1 ∧ z21.2.1 < ((n0 : Nat) : Int) ∧ ∃ a30 : Addr, A0 = some a30 ∧ ∃ (n31 : Int), w22.cell? (((a30.add ((z21.2.1.toNat) * 4)).add 3).add 0) = some (.int .i64 n31) ∧ bcase (n31 != (IntKind.wrap .i64 ((IntKind.wrap .i64 ((IntKind.wrap .i64 (z21.1 + 1)) + 1)) + 1))) (K (.int .i64 (-1)) w22) (next23 ((IntKind.wrap .i64 ((IntKind.wrap .i64 ((IntKind.wrap .i64 ((IntKind.wrap .i64 (z21.1 + 1)) + 1)) + 1)) + 1)), (IntKind.wrap .i64 (z21.2.1 + 1)), ()) w22))))))))) (K (.int .i64 z21.1) w22)) (x1, 0, ()) w

def laws_heldInsS.ann : Ann := (.seq .l (.seq (.seq .l (.one (.loop [(1, .int .i64), (5, .int .i64)] (.seq (.seq .l (.two .l .l)) (.seq (.one (.seq (.seq .l (.two (.seq .l .l) .l)) (.seq .l (.seq (.seq .l (.two (.seq .l .l) .l)) (.seq .l (.seq (.seq .l (.two (.seq .l .l) .l)) (.seq .l (.seq (.seq .l (.two (.seq .l .l) .l)) .l)))))))) .l))))) (.seq .l .l)))

theorem laws_heldInsS.vc_eq (A0 : Option Addr) (n0 : Nat) (c0 : Nat) (x1 : Int) (w : World) (K : Value → World → Prop) : vcF Try.prog Try.f69 laws_heldInsS.ann [(.slice A0 n0 c0), (.int .i64 x1)] K w = laws_heldInsS.vc A0 n0 c0 x1 w K := by kernel_rfl

theorem laws_heldInsS.start {A0 : Option Addr} {n0 : Nat} {c0 : Nat} {x1 : Int} {w : World} {K : Value → World → Prop} (h : laws_heldInsS.vc A0 n0 c0 x1 w K) : Cll Try.prog 69 #[(.slice A0 n0 c0), (.int .i64 x1)] w K :=
  vcF_sound mixed (fn := Try.f69) (by kernel_rfl) (by kernel_rfl) (an := laws_heldInsS.ann) (args := [(.slice A0 n0 c0), (.int .i64 x1)]) (by rw [laws_heldInsS.vc_eq]; exact h)

theorem laws_heldInsS.con {xs0 : List D.Ins} {A0 : Option Addr} {c0 : Nat} {x1 : Int} {r : Int} {w : World} (hp : M.laws_heldInsS_pre xs0 x1) (hr : r = M.laws_heldInsS xs0 x1) (R0 : Row el76 w A0 xs0) (hc0 : xs0.length ≤ c0) :
    Cll Try.prog 69 #[(.slice A0 xs0.length c0), (.int .i64 x1)] w (fun v_ w_ => v_ = (.int .i64 r) ∧ Ext w w_) := by
  have H := wp.laws_heldInsS.math xs0 x1 hp
  have hB := Ext.refl w
  refine laws_heldInsS.start ?_
  unfold laws_heldInsS.vc
  unfold wp.laws_heldInsS at H
  obtain ⟨J24, ⟨m58, hJ57⟩, hS25⟩ := H
  refine ⟨fun m_ z_ w_ => ∃ (i21 : Int) (i22 : Int), z_ = (i21, i22, ()) ∧ J24 m_ (i21, i22, ()) ∧ Ext w w_, ⟨m58, x1, 0, rfl, hJ57, hB⟩, ?_⟩
  rintro m23 _ w27 ⟨i21, i22, rfl, hJ59, hB⟩
  have H := hS25 m23 _ hJ59
  clear hS25 hJ59
  dsimp only at H ⊢
  refine bcase_mk (fun hc55 => ?_) (fun hc55 => ?_)
  · have H := (bcase_iff.1 H).1 hc55
    obtain ⟨⟨h0_31, h1_32⟩, H⟩ := H
    obtain ⟨a29, ha30, hat28⟩ := Row.at (R0.ext hB) h0_31 h1_32
    refine ⟨h0_31, h1_32, a29, ha30, ?_⟩
    refine ⟨_, (hat28 0 _ rfl), ?_⟩
    refine bcase_mk (fun hc54 => ?_) (fun hc54 => ?_)
    · have H := (bcase_iff.1 H).1 hc54
      obtain rfl := hr.trans H.symm
      exact ⟨rfl, hB⟩
    · have H := (bcase_iff.1 H).2 hc54
      obtain ⟨⟨h0_36, h1_37⟩, H⟩ := H
      obtain ⟨a34, ha35, hat33⟩ := Row.at (R0.ext hB) h0_36 h1_37
      refine ⟨h0_36, h1_37, a34, ha35, ?_⟩
      refine ⟨_, (hat33 1 _ rfl), ?_⟩
      refine bcase_mk (fun hc53 => ?_) (fun hc53 => ?_)
      · have H := (bcase_iff.1 H).1 hc53
        obtain rfl := hr.trans H.symm
        exact ⟨rfl, hB⟩
      · have H := (bcase_iff.1 H).2 hc53
        obtain ⟨⟨h0_41, h1_42⟩, H⟩ := H
        obtain ⟨a39, ha40, hat38⟩ := Row.at (R0.ext hB) h0_41 h1_42
        refine ⟨h0_41, h1_42, a39, ha40, ?_⟩
        refine ⟨_, (hat38 2 _ rfl), ?_⟩
        refine bcase_mk (fun hc52 => ?_) (fun hc52 => ?_)
        · have H := (bcase_iff.1 H).1 hc52
          obtain rfl := hr.trans H.symm
          exact ⟨rfl, hB⟩
        · have H := (bcase_iff.1 H).2 hc52
          obtain ⟨⟨h0_46, h1_47⟩, H⟩ := H
          obtain ⟨a44, ha45, hat43⟩ := Row.at (R0.ext hB) h0_46 h1_47
          refine ⟨h0_46, h1_47, a44, ha45, ?_⟩
          refine ⟨_, (hat43 3 _ rfl), ?_⟩
          refine bcase_mk (fun hc51 => ?_) (fun hc51 => ?_)
          · have H := (bcase_iff.1 H).1 hc51
            obtain rfl := hr.trans H.symm
            exact ⟨rfl, hB⟩
          · have H := (bcase_iff.1 H).2 hc51
            obtain ⟨m48, hm49, hJ50⟩ := H
            exact ⟨m48, hm49, (IntKind.wrap .i64 ((IntKind.wrap .i64 ((IntKind.wrap .i64 ((IntKind.wrap .i64 (i21 + 1)) + 1)) + 1)) + 1)), (IntKind.wrap .i64 (i22 + 1)), rfl, hJ50, hB⟩
  · have H := (bcase_iff.1 H).2 hc55
    obtain rfl := hr.trans H.symm
    exact ⟨rfl, hB⟩

def laws_heldFrameS.vc (A0 : Option Addr) (n0 : Nat) (c0 : Nat) (x1 : Int) (w : World) (K : Value → World → Prop) : Prop :=
  LoopT (σ := Int × Int × Unit) (fun z21 w22 next23 => bcase (decide (z21.2.1 < ((n0 : Nat) : Int))) (((0 : Int) ≤ z21.2.1 ∧ z21.2.1 < ((n0 : Nat) : Int) ∧ ∃ a24 : Addr, A0 = some a24 ∧ ∃ (n25 : Int), w22.cell? (((a24.add ((z21.2.1.toNat) * 3)).add 0).add 0) = some (.int .i64 n25) ∧ bcase (n25 != z21.1) (K (.int .i64 (-1)) w22) (((0 : Int) ≤ z21.2.1 ∧ z21.2.1 < ((n0 : Nat) : Int) ∧ ∃ a26 : Addr, A0 = some a26 ∧ ∃ (n27 : Int), w22.cell? (((a26.add ((z21.2.1.toNat) * 3)).add 1).add 0) = some (.int .i64 n27) ∧ bcase (n27 != (IntKind.wrap .i64 (z21.1 + 1))) (K (.int .i64 (-1)) w22) (((0 : Int) ≤ z21.2.1 ∧ z21.2.1 < ((n0 : Nat) : Int) ∧ ∃ a28 : Addr, A0 = some a28 ∧ ∃ (n29 : Int), w22.cell? (((a28.add ((z21.2.1.toNat) * 3)).add 2).add 0) = some (.int .i64 n29) ∧ bcase (n29 != (IntKind.wrap .i64 ((IntKind.wrap .i64 (z21.1 + 1)) + 1))) (K (.int .i64 (-1)) w22) (next23 ((IntKind.wrap .i64 ((IntKind.wrap .i64 ((IntKind.wrap .i64 (z21.1 + 1)) + 1)) + 1)), (IntKind.wrap .i64 (z21.2.1 + 1)), ()) w22))))))) (K (.int .i64 z21.1) w22)) (x1, 0, ()) w

def laws_heldFrameS.ann : Ann := (.seq .l (.seq (.seq .l (.one (.loop [(1, .int .i64), (5, .int .i64)] (.seq (.seq .l (.two .l .l)) (.seq (.one (.seq (.seq .l (.two (.seq .l .l) .l)) (.seq .l (.seq (.seq .l (.two (.seq .l .l) .l)) (.seq .l (.seq (.seq .l (.two (.seq .l .l) .l)) .l)))))) .l))))) (.seq .l .l)))

theorem laws_heldFrameS.vc_eq (A0 : Option Addr) (n0 : Nat) (c0 : Nat) (x1 : Int) (w : World) (K : Value → World → Prop) : vcF Try.prog Try.f124 laws_heldFrameS.ann [(.slice A0 n0 c0), (.int .i64 x1)] K w = laws_heldFrameS.vc A0 n0 c0 x1 w K := by kernel_rfl

theorem laws_heldFrameS.start {A0 : Option Addr} {n0 : Nat} {c0 : Nat} {x1 : Int} {w : World} {K : Value → World → Prop} (h : laws_heldFrameS.vc A0 n0 c0 x1 w K) : Cll Try.prog 124 #[(.slice A0 n0 c0), (.int .i64 x1)] w K :=
  vcF_sound mixed (fn := Try.f124) (by kernel_rfl) (by kernel_rfl) (an := laws_heldFrameS.ann) (args := [(.slice A0 n0 c0), (.int .i64 x1)]) (by rw [laws_heldFrameS.vc_eq]; exact h)

theorem laws_heldFrameS.con {xs0 : List D.Frame} {A0 : Option Addr} {c0 : Nat} {x1 : Int} {r : Int} {w : World} (hp : M.laws_heldFrameS_pre xs0 x1) (hr : r = M.laws_heldFrameS xs0 x1) (R0 : Row el132 w A0 xs0) (hc0 : xs0.length ≤ c0) :
    Cll Try.prog 124 #[(.slice A0 xs0.length c0), (.int .i64 x1)] w (fun v_ w_ => v_ = (.int .i64 r) ∧ Ext w w_) := by
  have H := wp.laws_heldFrameS.math xs0 x1 hp
  have hB := Ext.refl w
  refine laws_heldFrameS.start ?_
  unfold laws_heldFrameS.vc
  unfold wp.laws_heldFrameS at H
  obtain ⟨J24, ⟨m52, hJ51⟩, hS25⟩ := H
  refine ⟨fun m_ z_ w_ => ∃ (i21 : Int) (i22 : Int), z_ = (i21, i22, ()) ∧ J24 m_ (i21, i22, ()) ∧ Ext w w_, ⟨m52, x1, 0, rfl, hJ51, hB⟩, ?_⟩
  rintro m23 _ w27 ⟨i21, i22, rfl, hJ53, hB⟩
  have H := hS25 m23 _ hJ53
  clear hS25 hJ53
  dsimp only at H ⊢
  refine bcase_mk (fun hc49 => ?_) (fun hc49 => ?_)
  · have H := (bcase_iff.1 H).1 hc49
    obtain ⟨⟨h0_31, h1_32⟩, H⟩ := H
    obtain ⟨a29, ha30, hat28⟩ := Row.at (R0.ext hB) h0_31 h1_32
    refine ⟨h0_31, h1_32, a29, ha30, ?_⟩
    refine ⟨_, (hat28 0 _ rfl), ?_⟩
    refine bcase_mk (fun hc48 => ?_) (fun hc48 => ?_)
    · have H := (bcase_iff.1 H).1 hc48
      obtain rfl := hr.trans H.symm
      exact ⟨rfl, hB⟩
    · have H := (bcase_iff.1 H).2 hc48
      obtain ⟨⟨h0_36, h1_37⟩, H⟩ := H
      obtain ⟨a34, ha35, hat33⟩ := Row.at (R0.ext hB) h0_36 h1_37
      refine ⟨h0_36, h1_37, a34, ha35, ?_⟩
      refine ⟨_, (hat33 1 _ rfl), ?_⟩
      refine bcase_mk (fun hc47 => ?_) (fun hc47 => ?_)
      · have H := (bcase_iff.1 H).1 hc47
        obtain rfl := hr.trans H.symm
        exact ⟨rfl, hB⟩
      · have H := (bcase_iff.1 H).2 hc47
        obtain ⟨⟨h0_41, h1_42⟩, H⟩ := H
        obtain ⟨a39, ha40, hat38⟩ := Row.at (R0.ext hB) h0_41 h1_42
        refine ⟨h0_41, h1_42, a39, ha40, ?_⟩
        refine ⟨_, (hat38 2 _ rfl), ?_⟩
        refine bcase_mk (fun hc46 => ?_) (fun hc46 => ?_)
        · have H := (bcase_iff.1 H).1 hc46
          obtain rfl := hr.trans H.symm
          exact ⟨rfl, hB⟩
        · have H := (bcase_iff.1 H).2 hc46
          obtain ⟨m43, hm44, hJ45⟩ := H
          exact ⟨m43, hm44, (IntKind.wrap .i64 ((IntKind.wrap .i64 ((IntKind.wrap .i64 (i21 + 1)) + 1)) + 1)), (IntKind.wrap .i64 (i22 + 1)), rfl, hJ45, hB⟩
  · have H := (bcase_iff.1 H).2 hc49
    obtain rfl := hr.trans H.symm
    exact ⟨rfl, hB⟩

def laws_heldWarpS.vc (A0 : Option Addr) (n0 : Nat) (c0 : Nat) (x1 : Int) (w : World) (K : Value → World → Prop) : Prop :=
  LoopT (σ := Int × Int × Unit) (fun z21 w22 next23 => bcase (decide (z21.2.1 < ((n0 : Nat) : Int))) (((0 : Int) ≤ z21.2.1 ∧ z21.2.1 < ((n0 : Nat) : Int) ∧ ∃ a24 : Addr, A0 = some a24 ∧ ∃ (n25 : Int), w22.cell? (((a24.add ((z21.2.1.toNat) * 3)).add 0).add 0) = some (.int .i64 n25) ∧ bcase (n25 != z21.1) (K (.int .i64 (-1)) w22) (((0 : Int) ≤ z21.2.1 ∧ z21.2.1 < ((n0 : Nat) : Int) ∧ ∃ a26 : Addr, A0 = some a26 ∧ ∃ (A27 : Option Addr) (n28 : Nat) (c29 : Nat), w22.cell? (((a26.add ((z21.2.1.toNat) * 3)).add 1).add 0) = some (.slice A27 n28 c29) ∧ Cll Try.prog 124 #[(.slice A27 n28 c29), (.int .i64 (IntKind.wrap .i64 (z21.1 + 1)))] w22 fun v30 w31 => (∃ (n32 : Int), v30 = (.int .i64 n32) ∧ bcase (decide (n32 < 0)) (K (.int .i64 (-1)) w31) (((0 : Int) ≤ z21.2.1 ∧ z21.2.1 < ((n0 : Nat) : Int) ∧ ∃ a33 : Addr, A0 = some a33 ∧ ∃ (A34 : Option Addr) (n35 : Nat) (c36 : Nat), w31.cell? (((a33.add ((z21.2.1.toNat) * 3)).add 2).add 0) = some (.slice A34 n35 c36) ∧ Cll Try.prog 71 #[(.slice A34 n35 c36), (.int .i64 n32)] w31 fun v37 w38 => (∃ (n39 : Int), v37 = (.int .i64 n39) ∧ bcase (decide (n39 < 0)) (K (.int .i64 (-1)) w38) (next23 (n39, (IntKind.wrap .i64 (z21.2.1 + 1)), ()) w38))))))))) (K (.int .i64 z21.1) w22)) (x1, 0, ()) w

def laws_heldWarpS.ann : Ann := (.seq .l (.seq (.seq .l (.one (.loop [(1, .int .i64), (5, .int .i64)] (.seq (.seq .l (.two .l .l)) (.seq (.one (.seq (.seq .l (.two (.seq .l .l) .l)) (.seq .l (.seq .l (.seq (.seq .l (.two (.seq .l .l) .l)) (.seq .l (.seq .l (.two (.seq .l .l) .l)))))))) .l))))) (.seq .l .l)))

theorem laws_heldWarpS.vc_eq (A0 : Option Addr) (n0 : Nat) (c0 : Nat) (x1 : Int) (w : World) (K : Value → World → Prop) : vcF Try.prog Try.f70 laws_heldWarpS.ann [(.slice A0 n0 c0), (.int .i64 x1)] K w = laws_heldWarpS.vc A0 n0 c0 x1 w K := by kernel_rfl

theorem laws_heldWarpS.start {A0 : Option Addr} {n0 : Nat} {c0 : Nat} {x1 : Int} {w : World} {K : Value → World → Prop} (h : laws_heldWarpS.vc A0 n0 c0 x1 w K) : Cll Try.prog 70 #[(.slice A0 n0 c0), (.int .i64 x1)] w K :=
  vcF_sound mixed (fn := Try.f70) (by kernel_rfl) (by kernel_rfl) (an := laws_heldWarpS.ann) (args := [(.slice A0 n0 c0), (.int .i64 x1)]) (by rw [laws_heldWarpS.vc_eq]; exact h)

theorem laws_heldWarpS.con {xs0 : List D.Warp} {A0 : Option Addr} {c0 : Nat} {x1 : Int} {r : Int} {w : World} (hp : M.laws_heldWarpS_pre xs0 x1) (hr : r = M.laws_heldWarpS xs0 x1) (R0 : RowW 102 el132 el3 w A0 xs0) (hc0 : xs0.length ≤ c0) :
    Cll Try.prog 70 #[(.slice A0 xs0.length c0), (.int .i64 x1)] w (fun v_ w_ => v_ = (.int .i64 r) ∧ Ext w w_) := by
  have H := wp.laws_heldWarpS.math xs0 x1 hp
  have hB := Ext.refl w
  refine laws_heldWarpS.start ?_
  unfold laws_heldWarpS.vc
  unfold wp.laws_heldWarpS at H
  obtain ⟨J24, ⟨m95, hJ94⟩, hS25⟩ := H
  refine ⟨fun m_ z_ w_ => ∃ (i21 : Int) (i22 : Int), z_ = (i21, i22, ()) ∧ J24 m_ (i21, i22, ()) ∧ Ext w w_, ⟨m95, x1, 0, rfl, hJ94, hB⟩, ?_⟩
  rintro m23 _ w27 ⟨i21, i22, rfl, hJ96, hB⟩
  have H := hS25 m23 _ hJ96
  clear hS25 hJ96
  dsimp only at H ⊢
  refine bcase_mk (fun hc92 => ?_) (fun hc92 => ?_)
  · have H := (bcase_iff.1 H).1 hc92
    obtain ⟨⟨h0_31, h1_32⟩, H⟩ := H
    obtain ⟨a29, ha30, A36, c37, A38, c39, f33, f34, f35, R40, hle42, R41, hle43⟩ := RowW.at R0 h0_31 h1_32
    refine ⟨h0_31, h1_32, a29, ha30, ?_⟩
    refine ⟨_, (Ext.cell hB f33), ?_⟩
    refine bcase_mk (fun hc91 => ?_) (fun hc91 => ?_)
    · have H := (bcase_iff.1 H).1 hc91
      obtain rfl := hr.trans H.symm
      exact ⟨rfl, hB⟩
    · have H := (bcase_iff.1 H).2 hc91
      obtain ⟨⟨h0_47, h1_48⟩, H⟩ := H
      obtain ⟨a45, ha46, A52, c53, A54, c55, f49, f50, f51, R56, hle58, R57, hle59⟩ := RowW.at R0 h0_47 h1_48
      refine ⟨h0_47, h1_48, a45, ha46, ?_⟩
      refine ⟨_, _, _, (Ext.cell hB f50), ?_⟩
      obtain ⟨hp62, H⟩ := H
      obtain ⟨r60, hr61⟩ : ∃ r_, r_ = M.laws_heldFrameS ((rd xs0 i22).Frames) (IntKind.wrap .i64 (i21 + 1)) := ⟨_, rfl⟩
      have H := H r60 hr61
      refine (cllArgs (by first | (simp only [List.length_set]; done) | (simp; done)) (laws_heldFrameS.con hp62 hr61 (R56.ext hB) hle58)).mono ?_
      rintro _ w63 ⟨rfl, e64⟩
      have hB := ethen hB e64
      refine ⟨r60, rfl, ?_⟩
      refine bcase_mk (fun hc90 => ?_) (fun hc90 => ?_)
      · have H := (bcase_iff.1 H).1 hc90
        obtain rfl := hr.trans H.symm
        exact ⟨rfl, hB⟩
      · have H := (bcase_iff.1 H).2 hc90
        obtain ⟨⟨h0_68, h1_69⟩, H⟩ := H
        obtain ⟨a66, ha67, A73, c74, A75, c76, f70, f71, f72, R77, hle79, R78, hle80⟩ := RowW.at R0 h0_68 h1_69
        refine ⟨h0_68, h1_69, a66, ha67, ?_⟩
        refine ⟨_, _, _, (Ext.cell hB f72), ?_⟩
        obtain ⟨hp83, H⟩ := H
        obtain ⟨r81, hr82⟩ : ∃ r_, r_ = M.laws_heldIntS ((rd xs0 i22).Regs) r60 := ⟨_, rfl⟩
        have H := H r81 hr82
        refine (cllArgs (by first | (simp only [List.length_set]; done) | (simp; done)) (laws_heldIntS.con hp83 hr82 (R78.ext hB) hle80)).mono ?_
        rintro _ w84 ⟨rfl, e85⟩
        have hB := ethen hB e85
        refine ⟨r81, rfl, ?_⟩
        refine bcase_mk (fun hc89 => ?_) (fun hc89 => ?_)
        · have H := (bcase_iff.1 H).1 hc89
          obtain rfl := hr.trans H.symm
          exact ⟨rfl, hB⟩
        · have H := (bcase_iff.1 H).2 hc89
          obtain ⟨m86, hm87, hJ88⟩ := H
          exact ⟨m86, hm87, r81, (IntKind.wrap .i64 (i22 + 1)), rfl, hJ88, hB⟩
  · have H := (bcase_iff.1 H).2 hc92
    obtain rfl := hr.trans H.symm
    exact ⟨rfl, hB⟩

def laws_heldBlock.vc (A0_0 : Option Addr) (n0_0 : Nat) (c0_0 : Nat) (A0_1 : Option Addr) (n0_1 : Nat) (c0_1 : Nat) (A0_2 : Option Addr) (n0_2 : Nat) (c0_2 : Nat) (x0_3 : Int) (x0_4 : Int) (x1 : Int) (w : World) (K : Value → World → Prop) : Prop :=
  newK w (.cells #[(.slice A0_0 n0_0 c0_0), (.slice A0_1 n0_1 c0_1), (.slice A0_2 n0_2 c0_2), (.int .i64 x0_3), (.int .i64 x0_4)] 32) fun g21 w22 => ∃ (A23 : Option Addr) (n24 : Nat) (c25 : Nat), w22.cell? (((⟨g21, 0, none⟩ : Addr).add 0).add 0) = some (.slice A23 n24 c25) ∧ Cll Try.prog 69 #[(.slice A23 n24 c25), (.int .i64 x1)] w22 fun v26 w27 => (∃ (n28 : Int), v26 = (.int .i64 n28) ∧ bcase (decide (n28 < 0)) (K (.int .i64 (-1)) w27) (∃ (A29 : Option Addr) (n30 : Nat) (c31 : Nat), w27.cell? (((⟨g21, 0, none⟩ : Addr).add 1).add 0) = some (.slice A29 n30 c31) ∧ Cll Try.prog 70 #[(.slice A29 n30 c31), (.int .i64 n28)] w27 fun v32 w33 => (∃ (n34 : Int), v32 = (.int .i64 n34) ∧ bcase (decide (n34 < 0)) (K (.int .i64 (-1)) w33) (∃ (A35 : Option Addr) (n36 : Nat) (c37 : Nat), w33.cell? (((⟨g21, 0, none⟩ : Addr).add 2).add 0) = some (.slice A35 n36 c37) ∧ Cll Try.prog 71 #[(.slice A35 n36 c37), (.int .i64 n34)] w33 fun v38 w39 => (∃ (n40 : Int), v38 = (.int .i64 n40) ∧ bcase (decide (n40 < 0)) (K (.int .i64 (-1)) w39) (K (.int .i64 n40) w39))))))

def laws_heldBlock.ann : Ann := (.seq .l (.seq .l (.seq (.seq .l (.two (.seq .l .l) .l)) (.seq .l (.seq (.seq .l (.two (.seq .l .l) .l)) (.seq .l (.seq (.seq .l (.two (.seq .l .l) .l)) (.seq .l .l))))))))

theorem laws_heldBlock.vc_eq (A0_0 : Option Addr) (n0_0 : Nat) (c0_0 : Nat) (A0_1 : Option Addr) (n0_1 : Nat) (c0_1 : Nat) (A0_2 : Option Addr) (n0_2 : Nat) (c0_2 : Nat) (x0_3 : Int) (x0_4 : Int) (x1 : Int) (w : World) (K : Value → World → Prop) : vcF Try.prog Try.f28 laws_heldBlock.ann [(.agg #[(.slice A0_0 n0_0 c0_0), (.slice A0_1 n0_1 c0_1), (.slice A0_2 n0_2 c0_2), (.int .i64 x0_3), (.int .i64 x0_4)]), (.int .i64 x1)] K w = laws_heldBlock.vc A0_0 n0_0 c0_0 A0_1 n0_1 c0_1 A0_2 n0_2 c0_2 x0_3 x0_4 x1 w K := by kernel_rfl

theorem laws_heldBlock.start {A0_0 : Option Addr} {n0_0 : Nat} {c0_0 : Nat} {A0_1 : Option Addr} {n0_1 : Nat} {c0_1 : Nat} {A0_2 : Option Addr} {n0_2 : Nat} {c0_2 : Nat} {x0_3 : Int} {x0_4 : Int} {x1 : Int} {w : World} {K : Value → World → Prop} (h : laws_heldBlock.vc A0_0 n0_0 c0_0 A0_1 n0_1 c0_1 A0_2 n0_2 c0_2 x0_3 x0_4 x1 w K) : Cll Try.prog 28 #[(.agg #[(.slice A0_0 n0_0 c0_0), (.slice A0_1 n0_1 c0_1), (.slice A0_2 n0_2 c0_2), (.int .i64 x0_3), (.int .i64 x0_4)]), (.int .i64 x1)] w K :=
  vcF_sound mixed (fn := Try.f28) (by kernel_rfl) (by kernel_rfl) (an := laws_heldBlock.ann) (args := [(.agg #[(.slice A0_0 n0_0 c0_0), (.slice A0_1 n0_1 c0_1), (.slice A0_2 n0_2 c0_2), (.int .i64 x0_3), (.int .i64 x0_4)]), (.int .i64 x1)]) (by rw [laws_heldBlock.vc_eq]; exact h)

theorem laws_heldBlock.con {s0 : D.Block} {A0_0 : Option Addr} {c0_0 : Nat} {A0_1 : Option Addr} {c0_1 : Nat} {A0_2 : Option Addr} {c0_2 : Nat} {x1 : Int} {r : Int} {w : World} (hp : M.laws_heldBlock_pre s0 x1) (hr : r = M.laws_heldBlock s0 x1) (R0_0 : Row el76 w A0_0 s0.Code) (hc0_0 : s0.Code.length ≤ c0_0) (R0_1 : RowW 102 el132 el3 w A0_1 s0.Warps) (hc0_1 : s0.Warps.length ≤ c0_1) (R0_2 : Row el3 w A0_2 s0.Memory) (hc0_2 : s0.Memory.length ≤ c0_2) :
    Cll Try.prog 28 #[(.agg #[(.slice A0_0 s0.Code.length c0_0), (.slice A0_1 s0.Warps.length c0_1), (.slice A0_2 s0.Memory.length c0_2), (.int .i64 s0.Waiting), (.int .i64 s0.Phase)]), (.int .i64 x1)] w (fun v_ w_ => v_ = (.int .i64 r) ∧ Ext w w_) := by
  have H := wp.laws_heldBlock.math s0 x1 hp
  have hB := Ext.refl w
  refine laws_heldBlock.start ?_
  unfold laws_heldBlock.vc
  unfold wp.laws_heldBlock at H
  refine newBlk (fun g4_ w21 L4 P4 e22 => ?_)
  have O4 := P4
  have L4 := Nat.le_trans hB.size L4
  have hB := ethen hB e22
  refine ⟨_, _, _, (O4.at 0 rfl rfl), ?_⟩
  obtain ⟨hp25, H⟩ := H
  obtain ⟨r23, hr24⟩ : ∃ r_, r_ = M.laws_heldInsS s0.Code x1 := ⟨_, rfl⟩
  have H := H r23 hr24
  refine (laws_heldInsS.con hp25 hr24 (R0_0.ext hB) hc0_0).mono ?_
  rintro _ w26 ⟨rfl, e27⟩
  have O4 := O4.ext e27
  have hB := ethen hB e27
  refine ⟨r23, rfl, ?_⟩
  refine bcase_mk (fun hc40 => ?_) (fun hc40 => ?_)
  · have H := (bcase_iff.1 H).1 hc40
    obtain rfl := hr.trans H.symm
    exact ⟨rfl, hB⟩
  · have H := (bcase_iff.1 H).2 hc40
    refine ⟨_, _, _, (O4.at 1 rfl rfl), ?_⟩
    obtain ⟨hp30, H⟩ := H
    obtain ⟨r28, hr29⟩ : ∃ r_, r_ = M.laws_heldWarpS s0.Warps r23 := ⟨_, rfl⟩
    have H := H r28 hr29
    refine (laws_heldWarpS.con hp30 hr29 (R0_1.ext hB) hc0_1).mono ?_
    rintro _ w31 ⟨rfl, e32⟩
    have O4 := O4.ext e32
    have hB := ethen hB e32
    refine ⟨r28, rfl, ?_⟩
    refine bcase_mk (fun hc39 => ?_) (fun hc39 => ?_)
    · have H := (bcase_iff.1 H).1 hc39
      obtain rfl := hr.trans H.symm
      exact ⟨rfl, hB⟩
    · have H := (bcase_iff.1 H).2 hc39
      refine ⟨_, _, _, (O4.at 2 rfl rfl), ?_⟩
      obtain ⟨hp35, H⟩ := H
      obtain ⟨r33, hr34⟩ : ∃ r_, r_ = M.laws_heldIntS s0.Memory r28 := ⟨_, rfl⟩
      have H := H r33 hr34
      refine (laws_heldIntS.con hp35 hr34 (R0_2.ext hB) hc0_2).mono ?_
      rintro _ w36 ⟨rfl, e37⟩
      have O4 := O4.ext e37
      have hB := ethen hB e37
      refine ⟨r33, rfl, ?_⟩
      refine bcase_mk (fun hc38 => ?_) (fun hc38 => ?_)
      · have H := (bcase_iff.1 H).1 hc38
        obtain rfl := hr.trans H.symm
        exact ⟨rfl, hB⟩
      · have H := (bcase_iff.1 H).2 hc38
        obtain rfl := hr.trans H.symm
        exact ⟨rfl, hB⟩

def laws_FnExactWithMemory.vc (A0_0 : Option Addr) (n0_0 : Nat) (c0_0 : Nat) (A0_1 : Option Addr) (n0_1 : Nat) (c0_1 : Nat) (A0_2 : Option Addr) (n0_2 : Nat) (c0_2 : Nat) (x0_3 : Int) (x0_4 : Int) (A1 : Option Addr) (n1 : Nat) (c1 : Nat) (w : World) (K : Value → World → Prop) : Prop :=
  newK w (.cells #[(.slice A0_0 n0_0 c0_0), (.slice A0_1 n0_1 c0_1), (.slice A0_2 n0_2 c0_2), (.int .i64 x0_3), (.int .i64 x0_4)] 26) fun g21 w22 => bcase (decide (((n1 : Nat) : Int) > 1048576)) (K (.bool true) w22) (∃ (A23 : Option Addr) (n24 : Nat) (c25 : Nat), w22.cell? ((⟨g21, 0, none⟩ : Addr).add 0) = some (.slice A23 n24 c25) ∧ ∃ (A26 : Option Addr) (n27 : Nat) (c28 : Nat), w22.cell? ((⟨g21, 0, none⟩ : Addr).add 1) = some (.slice A26 n27 c28) ∧ ∃ (A29 : Option Addr) (n30 : Nat) (c31 : Nat), w22.cell? ((⟨g21, 0, none⟩ : Addr).add 2) = some (.slice A29 n30 c31) ∧ ∃ (n32 : Int), w22.cell? ((⟨g21, 0, none⟩ : Addr).add 3) = some (.int .i64 n32) ∧ ∃ (n33 : Int), w22.cell? ((⟨g21, 0, none⟩ : Addr).add 4) = some (.int .i64 n33) ∧ Cll Try.prog 11 #[(.agg #[(.slice A23 n24 c25), (.slice A26 n27 c28), (.slice A29 n30 c31), (.int .i64 n32), (.int .i64 n33)]), (.int .i64 1048576)] w22 fun v34 w35 => (∃ (n36 : Int), v34 = (.int .i64 n36) ∧ bcase (decide (n36 < 0)) (K (.bool true) w35) (∃ (A37 : Option Addr) (n38 : Nat) (c39 : Nat), w35.cell? ((⟨g21, 0, none⟩ : Addr).add 0) = some (.slice A37 n38 c39) ∧ ∃ (A40 : Option Addr) (n41 : Nat) (c42 : Nat), w35.cell? ((⟨g21, 0, none⟩ : Addr).add 1) = some (.slice A40 n41 c42) ∧ ∃ (A43 : Option Addr) (n44 : Nat) (c45 : Nat), w35.cell? ((⟨g21, 0, none⟩ : Addr).add 2) = some (.slice A43 n44 c45) ∧ ∃ (n46 : Int), w35.cell? ((⟨g21, 0, none⟩ : Addr).add 3) = some (.int .i64 n46) ∧ ∃ (n47 : Int), w35.cell? ((⟨g21, 0, none⟩ : Addr).add 4) = some (.int .i64 n47) ∧ Cll Try.prog 13 #[(.agg #[(.slice A37 n38 c39), (.slice A40 n41 c42), (.slice A43 n44 c45), (.int .i64 n46), (.int .i64 n47)])] w35 fun v48 w49 => (∃ (A50 : Option Addr) (n51 : Nat) (c52 : Nat), True ∧ ∃ (A53 : Option Addr) (n54 : Nat) (c55 : Nat), True ∧ ∃ (A56 : Option Addr) (n57 : Nat) (c58 : Nat), True ∧ ∃ (n59 : Int), True ∧ ∃ (n60 : Int), True ∧ v48 = (.agg #[(.slice A50 n51 c52), (.slice A53 n54 c55), (.slice A56 n57 c58), (.int .i64 n59), (.int .i64 n60)]) ∧ Cll Try.prog 23 #[(.slice A1 n1 c1)] w49 fun v61 w62 => (∃ (A63 : Option Addr) (n64 : Nat) (c65 : Nat), v61 = (.slice A63 n64 c65) ∧ Cll Try.prog 22 #[(.agg #[(.slice A50 n51 c52), (.slice A53 n54 c55), (.slice A56 n57 c58), (.int .i64 n59), (.int .i64 n60)]), (.slice A63 n64 c65)] w62 fun v66 w67 => (∃ u68 : Value, (∃ (A69 : Option Addr) (n70 : Nat) (c71 : Nat), True ∧ ∃ (A72 : Option Addr) (n73 : Nat) (c74 : Nat), True ∧ ∃ (A75 : Option Addr) (n76 : Nat) (c77 : Nat), True ∧ ∃ (n78 : Int), True ∧ ∃ (n79 : Int), True ∧ u68 = (.agg #[(.slice A69 n70 c71), (.slice A72 n73 c74), (.slice A75 n76 c77), (.int .i64 n78), (.int .i64 n79)]) ∧ ∃ u80 : Value, (∃ (b81 : Bool), u80 = (.bool b81) ∧ v66 = (.tuple #[(.agg #[(.slice A69 n70 c71), (.slice A72 n73 c74), (.slice A75 n76 c77), (.int .i64 n78), (.int .i64 n79)]), (.bool b81)]) ∧ newK w67 (.cells #[(.slice none 0 0), (.slice none 0 0), (.slice none 0 0), (.int .i64 0), (.int .i64 0)] 32) fun g82 w83 => stCells (⟨g82, 0, none⟩ : Addr) [(.slice A69 n70 c71), (.slice A72 n73 c74), (.slice A75 n76 c77), (.int .i64 n78), (.int .i64 n79)] 0 w83 fun w84 => ∃ (A85 : Option Addr) (n86 : Nat) (c87 : Nat), w84.cell? ((⟨g21, 0, none⟩ : Addr).add 0) = some (.slice A85 n86 c87) ∧ ∃ (A88 : Option Addr) (n89 : Nat) (c90 : Nat), w84.cell? ((⟨g21, 0, none⟩ : Addr).add 1) = some (.slice A88 n89 c90) ∧ ∃ (A91 : Option Addr) (n92 : Nat) (c93 : Nat), w84.cell? ((⟨g21, 0, none⟩ : Addr).add 2) = some (.slice A91 n92 c93) ∧ ∃ (n94 : Int), w84.cell? ((⟨g21, 0, none⟩ : Addr).add 3) = some (.int .i64 n94) ∧ ∃ (n95 : Int), w84.cell? ((⟨g21, 0, none⟩ : Addr).add 4) = some (.int .i64 n95) ∧ Cll Try.prog 13 #[(.agg #[(.slice A85 n86 c87), (.slice A88 n89 c90), (.slice A91 n92 c93), (.int .i64 n94), (.int .i64 n95)])] w84 fun v96 w97 => (∃ (A98 : Option Addr) (n99 : Nat) (c100 : Nat), True ∧ ∃ (A101 : Option Addr) (n102 : Nat) (c103 : Nat), True ∧ ∃ (A104 : Option Addr) (n105 : Nat) (c106 : Nat), True ∧ ∃ (n107 : Int), True ∧ ∃ (n108 : Int), True ∧ v96 = (.agg #[(.slice A98 n99 c100), (.slice A101 n102 c103), (.slice A104 n105 c106), (.int .i64 n107), (.int .i64 n108)]) ∧ newK w97 (.cells #[(.slice none 0 0), (.slice none 0 0), (.slice none 0 0), (.int .i64 0), (.int .i64 0)] 32) fun g109 w110 => stCells (⟨g109, 0, none⟩ : Addr) [(.slice A98 n99 c100), (.slice A101 n102 c103), (.slice A104 n105 c106), (.int .i64 n107), (.int .i64 n108)] 0 w110 fun w111 => Cll Try.prog 23 #[(.slice A1 n1 c1)] w111 fun v112 w113 => (∃ (A114 : Option Addr) (n115 : Nat) (c116 : Nat), v112 = (.slice A114 n115 c116) ∧ ∃ (A117 : Option Addr) (n118 : Nat) (c119 : Nat), w113.cell? ((⟨g109, 0, none⟩ : Addr).add 0) = some (.slice A117 n118 c119) ∧ ∃ (A120 : Option Addr) (n121 : Nat) (c122 : Nat), w113.cell? ((⟨g109, 0, none⟩ : Addr).add 1) = some (.slice A120 n121 c122) ∧ ∃ (A123 : Option Addr) (n124 : Nat) (c125 : Nat), w113.cell? ((⟨g109, 0, none⟩ : Addr).add 2) = some (.slice A123 n124 c125) ∧ ∃ (n126 : Int), w113.cell? ((⟨g109, 0, none⟩ : Addr).add 3) = some (.int .i64 n126) ∧ ∃ (n127 : Int), w113.cell? ((⟨g109, 0, none⟩ : Addr).add 4) = some (.int .i64 n127) ∧ Cll Try.prog 24 #[(.agg #[(.slice A117 n118 c119), (.slice A120 n121 c122), (.slice A123 n124 c125), (.int .i64 n126), (.int .i64 n127)]), (.slice A114 n115 c116)] w113 fun v128 w129 => (∃ u130 : Value, (∃ (A131 : Option Addr) (n132 : Nat) (c133 : Nat), True ∧ ∃ (A134 : Option Addr) (n135 : Nat) (c136 : Nat), True ∧ ∃ (A137 : Option Addr) (n138 : Nat) (c139 : Nat), True ∧ ∃ (n140 : Int), True ∧ ∃ (n141 : Int), True ∧ u130 = (.agg #[(.slice A131 n132 c133), (.slice A134 n135 c136), (.slice A137 n138 c139), (.int .i64 n140), (.int .i64 n141)]) ∧ ∃ u142 : Value, (∃ (b143 : Bool), u142 = (.bool b143) ∧ v128 = (.tuple #[(.agg #[(.slice A131 n132 c133), (.slice A134 n135 c136), (.slice A137 n138 c139), (.int .i64 n140), (.int .i64 n141)]), (.bool b143)]) ∧ newK w129 (.cells #[(.slice none 0 0), (.slice none 0 0), (.slice none 0 0), (.int .i64 0), (.int .i64 0)] 32) fun g144 w145 => stCells (⟨g144, 0, none⟩ : Addr) [(.slice A131 n132 c133), (.slice A134 n135 c136), (.slice A137 n138 c139), (.int .i64 n140), (.int .i64 n141)] 0 w145 fun w146 => ∃ (A148 : Option Addr) (n149 : Nat) (c150 : Nat), w146.cell? ((⟨g144, 0, none⟩ : Addr).add 0) = some (.slice A148 n149 c150) ∧ ∃ (A151 : Option Addr) (n152 : Nat) (c153 : Nat), w146.cell? ((⟨g144, 0, none⟩ : Addr).add 1) = some (.slice A151 n152 c153) ∧ ∃ (A154 : Option Addr) (n155 : Nat) (c156 : Nat), w146.cell? ((⟨g144, 0, none⟩ : Addr).add 2) = some (.slice A154 n155 c156) ∧ ∃ (n157 : Int), w146.cell? ((⟨g144, 0, none⟩ : Addr).add 3) = some (.int .i64 n157) ∧ ∃ (n158 : Int), w146.cell? ((⟨g144, 0, none⟩ : Addr).add 4) = some (.int .i64 n158) ∧ ∃ (A159 : Option Addr) (n160 : Nat) (c161 : Nat), w146.cell? ((⟨g82, 0, none⟩ : Addr).add 0) = some (.slice A159 n160 c161) ∧ ∃ (A162 : Option Addr) (n163 : Nat) (c164 : Nat), w146.cell? ((⟨g82, 0, none⟩ : Addr).add 1) = some (.slice A162 n163 c164) ∧ ∃ (A165 : Option Addr) (n166 : Nat) (c167 : Nat), w146.cell? ((⟨g82, 0, none⟩ : Addr).add 2) = some (.slice A165 n166 c167) ∧ ∃ (n168 : Int), w146.cell? ((⟨g82, 0, none⟩ : Addr).add 3) = some (.int .i64 n168) ∧ ∃ (n169 : Int), w146.cell? ((⟨g82, 0, none⟩ : Addr).add 4) = some (.int .i64 n169) ∧ Cll Try.prog 15 #[(.agg #[(.slice A148 n149 c150), (.slice A151 n152 c153), (.slice A154 n155 c156), (.int .i64 n157), (.int .i64 n158)]), (.agg #[(.slice A159 n160 c161), (.slice A162 n163 c164), (.slice A165 n166 c167), (.int .i64 n168), (.int .i64 n169)])] w146 fun v170 w171 => (∃ (b172 : Bool), v170 = (.bool b172) ∧ bcase (!b172) (K (.bool false) w171) (bcase (!(b143 == b81)) (K (.bool false) w171) ((∃ M173 : Nat → Prop, ∃ (A174 : Option Addr) (n175 : Nat) (c176 : Nat), (¬ M173 ((⟨g109, 0, none⟩ : Addr)).block ∧ w171.cell? ((⟨g109, 0, none⟩ : Addr).add 0) = some (.slice A174 n175 c176)) ∧ ∃ (A177 : Option Addr) (n178 : Nat) (c179 : Nat), (¬ M173 ((⟨g109, 0, none⟩ : Addr)).block ∧ w171.cell? ((⟨g109, 0, none⟩ : Addr).add 1) = some (.slice A177 n178 c179)) ∧ ∃ (A180 : Option Addr) (n181 : Nat) (c182 : Nat), (¬ M173 ((⟨g109, 0, none⟩ : Addr)).block ∧ w171.cell? ((⟨g109, 0, none⟩ : Addr).add 2) = some (.slice A180 n181 c182)) ∧ ∃ (n183 : Int), (¬ M173 ((⟨g109, 0, none⟩ : Addr)).block ∧ w171.cell? ((⟨g109, 0, none⟩ : Addr).add 3) = some (.int .i64 n183)) ∧ ∃ (n184 : Int), (¬ M173 ((⟨g109, 0, none⟩ : Addr)).block ∧ w171.cell? ((⟨g109, 0, none⟩ : Addr).add 4) = some (.int .i64 n184)) ∧ ∃ (A185 : Option Addr) (n186 : Nat) (c187 : Nat), (¬ M173 ((⟨g21, 0, none⟩ : Addr)).block ∧ w171.cell? ((⟨g21, 0, none⟩ : Addr).add 0) = some (.slice A185 n186 c187)) ∧ ∃ (A188 : Option Addr) (n189 : Nat) (c190 : Nat), (¬ M173 ((⟨g21, 0, none⟩ : Addr)).block ∧ w171.cell? ((⟨g21, 0, none⟩ : Addr).add 1) = some (.slice A188 n189 c190)) ∧ ∃ (A191 : Option Addr) (n192 : Nat) (c193 : Nat), (¬ M173 ((⟨g21, 0, none⟩ : Addr)).block ∧ w171.cell? ((⟨g21, 0, none⟩ : Addr).add 2) = some (.slice A191 n192 c193)) ∧ ∃ (n194 : Int), (¬ M173 ((⟨g21, 0, none⟩ : Addr)).block ∧ w171.cell? ((⟨g21, 0, none⟩ : Addr).add 3) = some (.int .i64 n194)) ∧ ∃ (n195 : Int), (¬ M173 ((⟨g21, 0, none⟩ : Addr)).block ∧ w171.cell? ((⟨g21, 0, none⟩ : Addr).add 4) = some (.int .i64 n195)) ∧ Cll Try.prog 13 #[(.agg #[(.slice A185 n186 c187), (.slice A188 n189 c190), (.slice A191 n192 c193), (.int .i64 n194), (.int .i64 n195)])] w171.drew fun v196 w197 => (∃ (A198 : Option Addr) (n199 : Nat) (c200 : Nat), True ∧ ∃ (A201 : Option Addr) (n202 : Nat) (c203 : Nat), True ∧ ∃ (A204 : Option Addr) (n205 : Nat) (c206 : Nat), True ∧ ∃ (n207 : Int), True ∧ ∃ (n208 : Int), True ∧ v196 = (.agg #[(.slice A198 n199 c200), (.slice A201 n202 c203), (.slice A204 n205 c206), (.int .i64 n207), (.int .i64 n208)]) ∧ SameBut M173 w171 w197 ∧ Cll Try.prog 15 #[(.agg #[(.slice A174 n175 c176), (.slice A177 n178 c179), (.slice A180 n181 c182), (.int .i64 n183), (.int .i64 n184)]), (.agg #[(.slice A198 n199 c200), (.slice A201 n202 c203), (.slice A204 n205 c206), (.int .i64 n207), (.int .i64 n208)])] w197 fun v209 w210 => (∃ (b211 : Bool), v209 = (.bool b211) ∧ SameBut M173 w171 w210 ∧ bcase (!b211) (K (.bool false) w210) (Cll Try.prog 23 #[(.slice A1 n1 c1)] w210 fun v212 w213 => (∃ (A214 : Option Addr) (n215 : Nat) (c216 : Nat), v212 = (.slice A214 n215 c216) ∧ Cll Try.prog 25 #[(.slice A114 n115 c116), (.slice A214 n215 c216)] w213 fun v217 w218 => (∃ (b219 : Bool), v217 = (.bool b219) ∧ bcase (!b219) (K (.bool false) w218) (∃ (A220 : Option Addr) (n221 : Nat) (c222 : Nat), w218.cell? ((⟨g109, 0, none⟩ : Addr).add 0) = some (.slice A220 n221 c222) ∧ ∃ (A223 : Option Addr) (n224 : Nat) (c225 : Nat), w218.cell? ((⟨g109, 0, none⟩ : Addr).add 1) = some (.slice A223 n224 c225) ∧ ∃ (A226 : Option Addr) (n227 : Nat) (c228 : Nat), w218.cell? ((⟨g109, 0, none⟩ : Addr).add 2) = some (.slice A226 n227 c228) ∧ ∃ (n229 : Int), w218.cell? ((⟨g109, 0, none⟩ : Addr).add 3) = some (.int .i64 n229) ∧ ∃ (n230 : Int), w218.cell? ((⟨g109, 0, none⟩ : Addr).add 4) = some (.int .i64 n230) ∧ Cll Try.prog 26 #[(.agg #[(.slice A220 n221 c222), (.slice A223 n224 c225), (.slice A226 n227 c228), (.int .i64 n229), (.int .i64 n230)]), (.int .i64 1)] w218 fun v231 w232 => (∃ (n233 : Int), v231 = (.int .i64 n233) ∧ Cll Try.prog 27 #[(.slice A114 n115 c116), (.int .i64 n233)] w232 fun v234 w235 => (∃ (n236 : Int), v234 = (.int .i64 n236) ∧ bcase (decide (n236 < 0)) (K (.bool false) w235) (∃ (A238 : Option Addr) (n239 : Nat) (c240 : Nat), w235.cell? ((⟨g144, 0, none⟩ : Addr).add 0) = some (.slice A238 n239 c240) ∧ ∃ (A241 : Option Addr) (n242 : Nat) (c243 : Nat), w235.cell? ((⟨g144, 0, none⟩ : Addr).add 1) = some (.slice A241 n242 c243) ∧ ∃ (A244 : Option Addr) (n245 : Nat) (c246 : Nat), w235.cell? ((⟨g144, 0, none⟩ : Addr).add 2) = some (.slice A244 n245 c246) ∧ ∃ (n247 : Int), w235.cell? ((⟨g144, 0, none⟩ : Addr).add 3) = some (.int .i64 n247) ∧ ∃ (n248 : Int), w235.cell? ((⟨g144, 0, none⟩ : Addr).add 4) = some (.int .i64 n248) ∧ ∃ (A249 : Option Addr) (n250 : Nat) (c251 : Nat), w235.cell? ((⟨g82, 0, none⟩ : Addr).add 0) = some (.slice A249 n250 c251) ∧ ∃ (A252 : Option Addr) (n253 : Nat) (c254 : Nat), w235.cell? ((⟨g82, 0, none⟩ : Addr).add 1) = some (.slice A252 n253 c254) ∧ ∃ (A255 : Option Addr) (n256 : Nat) (c257 : Nat), w235.cell? ((⟨g82, 0, none⟩ : Addr).add 2) = some (.slice A255 n256 c257) ∧ ∃ (n258 : Int), w235.cell? ((⟨g82, 0, none⟩ : Addr).add 3) = some (.int .i64 n258) ∧ ∃ (n259 : Int), w235.cell? ((⟨g82, 0, none⟩ : Addr).add 4) = some (.int .i64 n259) ∧ Cll Try.prog 15 #[(.agg #[(.slice A238 n239 c240), (.slice A241 n242 c243), (.slice A244 n245 c246), (.int .i64 n247), (.int .i64 n248)]), (.agg #[(.slice A249 n250 c251), (.slice A252 n253 c254), (.slice A255 n256 c257), (.int .i64 n258), (.int .i64 n259)])] w235 fun v260 w261 => (∃ (b262 : Bool), v260 = (.bool b262) ∧ bcase (!b262) (K (.bool false) w261) (bcase (!(b143 == b81)) (K (.bool false) w261) (∃ (A263 : Option Addr) (n264 : Nat) (c265 : Nat), w261.cell? ((⟨g144, 0, none⟩ : Addr).add 0) = some (.slice A263 n264 c265) ∧ ∃ (A266 : Option Addr) (n267 : Nat) (c268 : Nat), w261.cell? ((⟨g144, 0, none⟩ : Addr).add 1) = some (.slice A266 n267 c268) ∧ ∃ (A269 : Option Addr) (n270 : Nat) (c271 : Nat), w261.cell? ((⟨g144, 0, none⟩ : Addr).add 2) = some (.slice A269 n270 c271) ∧ ∃ (n272 : Int), w261.cell? ((⟨g144, 0, none⟩ : Addr).add 3) = some (.int .i64 n272) ∧ ∃ (n273 : Int), w261.cell? ((⟨g144, 0, none⟩ : Addr).add 4) = some (.int .i64 n273) ∧ Cll Try.prog 26 #[(.agg #[(.slice A263 n264 c265), (.slice A266 n267 c268), (.slice A269 n270 c271), (.int .i64 n272), (.int .i64 n273)]), (.int .i64 1)] w261 fun v274 w275 => (∃ (n276 : Int), v274 = (.int .i64 n276) ∧ ∃ (A277 : Option Addr) (n278 : Nat) (c279 : Nat), w275.cell? ((⟨g144, 0, none⟩ : Addr).add 0) = some (.slice A277 n278 c279) ∧ ∃ (A280 : Option Addr) (n281 : Nat) (c282 : Nat), w275.cell? ((⟨g144, 0, none⟩ : Addr).add 1) = some (.slice A280 n281 c282) ∧ ∃ (A283 : Option Addr) (n284 : Nat) (c285 : Nat), w275.cell? ((⟨g144, 0, none⟩ : Addr).add 2) = some (.slice A283 n284 c285) ∧ ∃ (n286 : Int), w275.cell? ((⟨g144, 0, none⟩ : Addr).add 3) = some (.int .i64 n286) ∧ ∃ (n287 : Int), w275.cell? ((⟨g144, 0, none⟩ : Addr).add 4) = some (.int .i64 n287) ∧ Cll Try.prog 28 #[(.agg #[(.slice A277 n278 c279), (.slice A280 n281 c282), (.slice A283 n284 c285), (.int .i64 n286), (.int .i64 n287)]), (.int .i64 1)] w275 fun v288 w289 => (∃ (n290 : Int), v288 = (.int .i64 n290) ∧ bcase (decide (n290 < 0)) (K (.bool false) w289) (bcase (n290 != n276) (K (.bool false) w289) (∃ (A291 : Option Addr) (n292 : Nat) (c293 : Nat), w289.cell? ((⟨g21, 0, none⟩ : Addr).add 0) = some (.slice A291 n292 c293) ∧ ∃ (A294 : Option Addr) (n295 : Nat) (c296 : Nat), w289.cell? ((⟨g21, 0, none⟩ : Addr).add 1) = some (.slice A294 n295 c296) ∧ ∃ (A297 : Option Addr) (n298 : Nat) (c299 : Nat), w289.cell? ((⟨g21, 0, none⟩ : Addr).add 2) = some (.slice A297 n298 c299) ∧ ∃ (n300 : Int), w289.cell? ((⟨g21, 0, none⟩ : Addr).add 3) = some (.int .i64 n300) ∧ ∃ (n301 : Int), w289.cell? ((⟨g21, 0, none⟩ : Addr).add 4) = some (.int .i64 n301) ∧ Cll Try.prog 13 #[(.agg #[(.slice A291 n292 c293), (.slice A294 n295 c296), (.slice A297 n298 c299), (.int .i64 n300), (.int .i64 n301)])] w289 fun v302 w303 => (∃ (A304 : Option Addr) (n305 : Nat) (c306 : Nat), True ∧ ∃ (A307 : Option Addr) (n308 : Nat) (c309 : Nat), True ∧ ∃ (A310 : Option Addr) (n311 : Nat) (c312 : Nat), True ∧ ∃ (n313 : Int), True ∧ ∃ (n314 : Int), True ∧ v302 = (.agg #[(.slice A304 n305 c306), (.slice A307 n308 c309), (.slice A310 n311 c312), (.int .i64 n313), (.int .i64 n314)]) ∧ Cll Try.prog 23 #[(.slice A1 n1 c1)] w303 fun v315 w316 => (∃ (A317 : Option Addr) (n318 : Nat) (c319 : Nat), v315 = (.slice A317 n318 c319) ∧ Cll Try.prog 24 #[(.agg #[(.slice A304 n305 c306), (.slice A307 n308 c309), (.slice A310 n311 c312), (.int .i64 n313), (.int .i64 n314)]), (.slice A317 n318 c319)] w316 fun v320 w321 => (∃ u322 : Value, (∃ (A323 : Option Addr) (n324 : Nat) (c325 : Nat), True ∧ ∃ (A326 : Option Addr) (n327 : Nat) (c328 : Nat), True ∧ ∃ (A329 : Option Addr) (n330 : Nat) (c331 : Nat), True ∧ ∃ (n332 : Int), True ∧ ∃ (n333 : Int), True ∧ u322 = (.agg #[(.slice A323 n324 c325), (.slice A326 n327 c328), (.slice A329 n330 c331), (.int .i64 n332), (.int .i64 n333)]) ∧ ∃ u334 : Value, (∃ (b335 : Bool), u334 = (.bool b335) ∧ v320 = (.tuple #[(.agg #[(.slice A323 n324 c325), (.slice A326 n327 c328), (.slice A329 n330 c331), (.int .i64 n332), (.int .i64 n333)]), (.bool b335)]) ∧ newK w321 (.cells #[(.slice none 0 0), (.slice none 0 0), (.slice none 0 0), (.int .i64 0), (.int .i64 0)] 32) fun g336 w337 => stCells (⟨g336, 0, none⟩ : Addr) [(.slice A323 n324 c325), (.slice A326 n327 c328), (.slice A329 n330 c331), (.int .i64 n332), (.int .i64 n333)] 0 w337 fun w338 => ∃ (A340 : Option Addr) (n341 : Nat) (c342 : Nat), w338.cell? ((⟨g336, 0, none⟩ : Addr).add 0) = some (.slice A340 n341 c342) ∧ ∃ (A343 : Option Addr) (n344 : Nat) (c345 : Nat), w338.cell? ((⟨g336, 0, none⟩ : Addr).add 1) = some (.slice A343 n344 c345) ∧ ∃ (A346 : Option Addr) (n347 : Nat) (c348 : Nat), w338.cell? ((⟨g336, 0, none⟩ : Addr).add 2) = some (.slice A346 n347 c348) ∧ ∃ (n349 : Int), w338.cell? ((⟨g336, 0, none⟩ : Addr).add 3) = some (.int .i64 n349) ∧ ∃ (n350 : Int), w338.cell? ((⟨g336, 0, none⟩ : Addr).add 4) = some (.int .i64 n350) ∧ ∃ (A351 : Option Addr) (n352 : Nat) (c353 : Nat), w338.cell? ((⟨g82, 0, none⟩ : Addr).add 0) = some (.slice A351 n352 c353) ∧ ∃ (A354 : Option Addr) (n355 : Nat) (c356 : Nat), w338.cell? ((⟨g82, 0, none⟩ : Addr).add 1) = some (.slice A354 n355 c356) ∧ ∃ (A357 : Option Addr) (n358 : Nat) (c359 : Nat), w338.cell? ((⟨g82, 0, none⟩ : Addr).add 2) = some (.slice A357 n358 c359) ∧ ∃ (n360 : Int), w338.cell? ((⟨g82, 0, none⟩ : Addr).add 3) = some (.int .i64 n360) ∧ ∃ (n361 : Int), w338.cell? ((⟨g82, 0, none⟩ : Addr).add 4) = some (.int .i64 n361) ∧ Cll Try.prog 15 #[(.agg #[(.slice A340 n341 c342), (.slice A343 n344 c345), (.slice A346 n347 c348), (.int .i64 n349), (.int .i64 n350)]), (.agg #[(.slice A351 n352 c353), (.slice A354 n355 c356), (.slice A357 n358 c359), (.int .i64 n360), (.int .i64 n361)])] w338 fun v362 w363 => (∃ (b364 : Bool), v362 = (.bool b364) ∧ bcase (!b364) (K (.bool false) w363) (bcase (!(b335 == b81)) (K (.bool false) w363) (∃ (A365 : Option Addr) (n366 : Nat) (c367 : Nat), w363.cell? ((⟨g144, 0, none⟩ : Addr).add 0) = some (.slice A365 n366 c367) ∧ ∃ (A368 : Option Addr) (n369 : Nat) (c370 : Nat), w363.cell? ((⟨g144, 0, none⟩ : Addr).add 1) = some (.slice A368 n369 c370) ∧ ∃ (A371 : Option Addr) (n372 : Nat) (c373 : Nat), w363.cell? ((⟨g144, 0, none⟩ : Addr).add 2) = some (.slice A371 n372 c373) ∧ ∃ (n374 : Int), w363.cell? ((⟨g144, 0, none⟩ : Addr).add 3) = some (.int .i64 n374) ∧ ∃ (n375 : Int), w363.cell? ((⟨g144, 0, none⟩ : Addr).add 4) = some (.int .i64 n375) ∧ Cll Try.prog 28 #[(.agg #[(.slice A365 n366 c367), (.slice A368 n369 c370), (.slice A371 n372 c373), (.int .i64 n374), (.int .i64 n375)]), (.int .i64 1)] w363 fun v376 w377 => (∃ (n378 : Int), v376 = (.int .i64 n378) ∧ bcase (decide (n378 < 0)) (K (.bool false) w377) (bcase (n378 != n276) (K (.bool false) w377) (K (.bool true) w377))))))))))))))))))))))))))))))))))))))))))))

def laws_FnExactWithMemory.ann : Ann := (.seq .l (.seq (.seq .l (.two (.seq .l .l) .l)) (.seq .l (.seq .l (.seq (.seq .l (.two (.seq .l .l) .l)) (.seq .l (.seq .l (.seq .l (.seq .l (.seq (.seq .l (.two (.seq .l .l) .l)) (.seq (.seq .l (.two (.seq .l .l) .l)) (.seq (.seq .l (.two (.seq .l .l) .l)) (.seq .l (.seq .l (.seq .l (.seq (.seq .l (.two (.seq .l .l) .l)) (.seq .l (.seq .l (.seq .l (.seq .l (.seq (.seq .l (.two (.seq .l .l) .l)) (.seq (.seq .l (.two (.seq .l .l) .l)) (.seq .l (.seq (.seq .l (.two (.seq .l .l) .l)) (.seq .l (.seq .l (.seq (.seq .l (.two (.seq .l .l) .l)) (.seq (.seq .l (.two (.seq .l .l) .l)) (.seq .l .l)))))))))))))))))))))))))))))

theorem laws_FnExactWithMemory.vc_eq (A0_0 : Option Addr) (n0_0 : Nat) (c0_0 : Nat) (A0_1 : Option Addr) (n0_1 : Nat) (c0_1 : Nat) (A0_2 : Option Addr) (n0_2 : Nat) (c0_2 : Nat) (x0_3 : Int) (x0_4 : Int) (A1 : Option Addr) (n1 : Nat) (c1 : Nat) (w : World) (K : Value → World → Prop) : vcF Try.prog Try.f7 laws_FnExactWithMemory.ann [(.agg #[(.slice A0_0 n0_0 c0_0), (.slice A0_1 n0_1 c0_1), (.slice A0_2 n0_2 c0_2), (.int .i64 x0_3), (.int .i64 x0_4)]), (.slice A1 n1 c1)] K w = laws_FnExactWithMemory.vc A0_0 n0_0 c0_0 A0_1 n0_1 c0_1 A0_2 n0_2 c0_2 x0_3 x0_4 A1 n1 c1 w K := by kernel_rfl

theorem laws_FnExactWithMemory.start {A0_0 : Option Addr} {n0_0 : Nat} {c0_0 : Nat} {A0_1 : Option Addr} {n0_1 : Nat} {c0_1 : Nat} {A0_2 : Option Addr} {n0_2 : Nat} {c0_2 : Nat} {x0_3 : Int} {x0_4 : Int} {A1 : Option Addr} {n1 : Nat} {c1 : Nat} {w : World} {K : Value → World → Prop} (h : laws_FnExactWithMemory.vc A0_0 n0_0 c0_0 A0_1 n0_1 c0_1 A0_2 n0_2 c0_2 x0_3 x0_4 A1 n1 c1 w K) : Cll Try.prog 7 #[(.agg #[(.slice A0_0 n0_0 c0_0), (.slice A0_1 n0_1 c0_1), (.slice A0_2 n0_2 c0_2), (.int .i64 x0_3), (.int .i64 x0_4)]), (.slice A1 n1 c1)] w K :=
  vcF_sound mixed (fn := Try.f7) (by kernel_rfl) (by kernel_rfl) (an := laws_FnExactWithMemory.ann) (args := [(.agg #[(.slice A0_0 n0_0 c0_0), (.slice A0_1 n0_1 c0_1), (.slice A0_2 n0_2 c0_2), (.int .i64 x0_3), (.int .i64 x0_4)]), (.slice A1 n1 c1)]) (by rw [laws_FnExactWithMemory.vc_eq]; exact h)

theorem laws_FnExactWithMemory.con {s0 : D.Block} {A0_0 : Option Addr} {c0_0 : Nat} {A0_1 : Option Addr} {c0_1 : Nat} {A0_2 : Option Addr} {c0_2 : Nat} {xs1 : List Int} {A1 : Option Addr} {c1 : Nat} {r : Bool} {w : World} (hp : M.laws_FnExactWithMemory_pre s0 xs1) (hr : r = M.laws_FnExactWithMemory s0 xs1) (R0_0 : Row el78 w A0_0 s0.Code) (hc0_0 : s0.Code.length ≤ c0_0) (R0_1 : RowW 99 el148 el3 w A0_1 s0.Warps) (hc0_1 : s0.Warps.length ≤ c0_1) (R0_2 : Row el3 w A0_2 s0.Memory) (hc0_2 : s0.Memory.length ≤ c0_2) (R1 : Row el3 w A1 xs1) (hc1 : xs1.length ≤ c1) :
    Cll Try.prog 7 #[(.agg #[(.slice A0_0 s0.Code.length c0_0), (.slice A0_1 s0.Warps.length c0_1), (.slice A0_2 s0.Memory.length c0_2), (.int .i64 s0.Waiting), (.int .i64 s0.Phase)]), (.slice A1 xs1.length c1)] w (fun v_ w_ => v_ = (.bool r) ∧ Ext w w_) := by
  have H := wp.laws_FnExactWithMemory.math s0 xs1 hp
  have hB := Ext.refl w
  refine laws_FnExactWithMemory.start ?_
  unfold laws_FnExactWithMemory.vc
  unfold wp.laws_FnExactWithMemory at H
  refine newBlk (fun g5_ w21 L5 P5 e22 => ?_)
  have O5 := P5
  have L5 := Nat.le_trans hB.size L5
  have hB := ethen hB e22
  refine bcase_mk (fun hc228 => ?_) (fun hc228 => ?_)
  · have H := (bcase_iff.1 H).1 hc228
    obtain rfl := hr.trans H.symm
    exact ⟨rfl, hB⟩
  · have H := (bcase_iff.1 H).2 hc228
    refine ⟨_, _, _, (O5.at 0 rfl rfl), ?_⟩
    refine ⟨_, _, _, (O5.at 1 rfl rfl), ?_⟩
    refine ⟨_, _, _, (O5.at 2 rfl rfl), ?_⟩
    refine ⟨_, (O5.at 3 rfl rfl), ?_⟩
    refine ⟨_, (O5.at 4 rfl rfl), ?_⟩
    obtain ⟨hp25, H⟩ := H
    obtain ⟨r23, hr24⟩ : ∃ r_, r_ = M.laws_szBlock s0 1048576 := ⟨_, rfl⟩
    have H := H r23 hr24
    refine (laws_szBlock.con hp25 hr24 (R0_0.ext hB) hc0_0 (R0_1.ext hB) hc0_1 (R0_2.ext hB) hc0_2).mono ?_
    rintro _ w26 ⟨rfl, e27⟩
    have O5 := O5.ext e27
    have hB := ethen hB e27
    refine ⟨r23, rfl, ?_⟩
    refine bcase_mk (fun hc227 => ?_) (fun hc227 => ?_)
    · have H := (bcase_iff.1 H).1 hc227
      obtain rfl := hr.trans H.symm
      exact ⟨rfl, hB⟩
    · have H := (bcase_iff.1 H).2 hc227
      refine ⟨_, _, _, (O5.at 0 rfl rfl), ?_⟩
      refine ⟨_, _, _, (O5.at 1 rfl rfl), ?_⟩
      refine ⟨_, _, _, (O5.at 2 rfl rfl), ?_⟩
      refine ⟨_, (O5.at 3 rfl rfl), ?_⟩
      refine ⟨_, (O5.at 4 rfl rfl), ?_⟩
      obtain ⟨hp30, H⟩ := H
      obtain ⟨r28, hr29⟩ : ∃ r_, r_ = M.laws_toBlock s0 := ⟨_, rfl⟩
      have H := H r28 hr29
      refine (laws_toBlock.con hp30 hr29 (R0_0.ext hB) hc0_0 (R0_1.ext hB) hc0_1 (R0_2.ext hB) hc0_2).mono ?_
      rintro _ w31 ⟨A33, c34, A35, c36, F39, A37, c38, rfl, P6, P7, P8, N7_8, e32⟩
      have N6_5 := P6.apart_old O5.lt
      have N7_5 := P7.new_disbox O5 (Nat.le_refl _)
      have N8_5 := P8.apart_old O5.lt
      have O5 := O5.ext e32
      have O6 := P6.mono hB.size
      have O7 := P7.mono hB.size
      have O8 := P8.mono hB.size
      have hB := ethen hB e32
      refine ⟨A33, r28.Code.length, c34, trivial, ?_⟩
      refine ⟨A35, r28.Warps.length, c36, trivial, ?_⟩
      refine ⟨A37, r28.Memory.length, c38, trivial, ?_⟩
      refine ⟨r28.Waiting, trivial, ?_⟩
      refine ⟨r28.Phase, trivial, ?_⟩
      refine ⟨rfl, ?_⟩
      obtain ⟨hp42, H⟩ := H
      obtain ⟨r40, hr41⟩ : ∃ r_, r_ = M.laws_toIntS xs1 := ⟨_, rfl⟩
      have H := H r40 hr41
      refine (laws_toIntS.con hp42 hr41 (R1.ext hB) hc1).mono ?_
      rintro _ w43 ⟨A45, c46, rfl, P9, e44⟩
      have N9_5 := P9.apart_old O5.lt
      have N6_9 := Own.apart2_new O6 P9 (Nat.le_refl _)
      have N7_9 := O7.dis_new P9 (Nat.le_refl _)
      have N8_9 := Own.apart2_new O8 P9 (Nat.le_refl _)
      have O5 := O5.ext e44
      have O6 := O6.ext e44
      have O7 := O7.ext e44
      have O8 := O8.ext e44
      have O9 := P9.mono hB.size
      have hB := ethen hB e44
      refine ⟨A45, r40.length, c46, rfl, ?_⟩
      obtain ⟨hp49, H⟩ := H
      obtain ⟨r47, hr48⟩ : ∃ r_, r_ = M.spec_WithMemory r28 r40 := ⟨_, rfl⟩
      have H := H r47 hr48
      refine (spec_WithMemory.con hp49 hr48 O6.row O6.le O7.row O7.le O8.row O8.le O9.row O9.le).mono ?_
      rintro _ w50 ⟨A52, c53, A54, c55, F58, A56, c57, rfl, P10, P11, P12, N11_12, e51⟩
      have N10_5 := P10.apart_old O5.lt
      have N6_10 := Own.apart2_new O6 P10 (Nat.le_refl _)
      have N7_10 := O7.dis_new P10 (Nat.le_refl _)
      have N8_10 := Own.apart2_new O8 P10 (Nat.le_refl _)
      have N9_10 := Own.apart2_new O9 P10 (Nat.le_refl _)
      have N11_5 := P11.new_disbox O5 (Nat.le_refl _)
      have N11_6 := P11.new_dis O6 (Nat.le_refl _)
      have N7_11 := O7.dis_neww P11 (Nat.le_refl _)
      have N11_8 := P11.new_dis O8 (Nat.le_refl _)
      have N11_9 := P11.new_dis O9 (Nat.le_refl _)
      have N12_5 := P12.apart_old O5.lt
      have N6_12 := Own.apart2_new O6 P12 (Nat.le_refl _)
      have N7_12 := O7.dis_new P12 (Nat.le_refl _)
      have N8_12 := Own.apart2_new O8 P12 (Nat.le_refl _)
      have N9_12 := Own.apart2_new O9 P12 (Nat.le_refl _)
      have O5 := O5.ext e51
      have O6 := O6.ext e51
      have O7 := O7.ext e51
      have O8 := O8.ext e51
      have O9 := O9.ext e51
      have O10 := P10.mono hB.size
      have O11 := P11.mono hB.size
      have O12 := P12.mono hB.size
      have hB := ethen hB e51
      refine ⟨(.agg #[(.slice A52 r47.1.Code.length c53), (.slice A54 r47.1.Warps.length c55), (.slice A56 r47.1.Memory.length c57), (.int .i64 r47.1.Waiting), (.int .i64 r47.1.Phase)]), ?_⟩
      refine ⟨A52, r47.1.Code.length, c53, trivial, ?_⟩
      refine ⟨A54, r47.1.Warps.length, c55, trivial, ?_⟩
      refine ⟨A56, r47.1.Memory.length, c57, trivial, ?_⟩
      refine ⟨r47.1.Waiting, trivial, ?_⟩
      refine ⟨r47.1.Phase, trivial, ?_⟩
      refine ⟨rfl, ?_⟩
      refine ⟨(.bool r47.2), ?_⟩
      refine ⟨r47.2, rfl, ?_⟩
      refine ⟨rfl, ?_⟩
      refine newBlk (fun g13_ w59 L13 P13 e60 => ?_)
      have N5_13 := O5.ne L13
      have N6_13 := O6.apart_new L13
      have N7_13 := O7.dis_newbox L13
      have N8_13 := O8.apart_new L13
      have N9_13 := O9.apart_new L13
      have N10_13 := O10.apart_new L13
      have N11_13 := O11.dis_newbox L13
      have N12_13 := O12.apart_new L13
      have O5 := O5.ext e60
      have O6 := O6.ext e60
      have O7 := O7.ext e60
      have O8 := O8.ext e60
      have O9 := O9.ext e60
      have O10 := O10.ext e60
      have O11 := O11.ext e60
      have O12 := O12.ext e60
      have O13 := P13
      have L13 := Nat.le_trans hB.size L13
      have hB := ethen hB e60
      refine stBlk O13 (o := 0) (cs' := #[(.slice A52 r47.1.Code.length c53), (.slice A54 r47.1.Warps.length c55), (.slice A56 r47.1.Memory.length c57), (.int .i64 r47.1.Waiting), (.int .i64 r47.1.Phase)]) rfl rfl (Nat.le_of_ble_eq_true rfl) rfl (fun w61 P13 e62 => ?_)
      have O5_ := O5.chg e62 N5_13
      have O6_ := O6.chg e62 N6_13
      have O7_ := O7.chg e62 N7_13
      have O8_ := O8.chg e62 N8_13
      have O9_ := O9.chg e62 N9_13
      have O10_ := O10.chg e62 N10_13
      have O11_ := O11.chg e62 N11_13
      have O12_ := O12.chg e62 N12_13
      have O5 := O5_
      have O6 := O6_
      have O7 := O7_
      have O8 := O8_
      have O9 := O9_
      have O10 := O10_
      have O11 := O11_
      have O12 := O12_
      have hB := echg hB e62 L13
      have O13 := P13
      refine ⟨_, _, _, (O5.at 0 rfl rfl), ?_⟩
      refine ⟨_, _, _, (O5.at 1 rfl rfl), ?_⟩
      refine ⟨_, _, _, (O5.at 2 rfl rfl), ?_⟩
      refine ⟨_, (O5.at 3 rfl rfl), ?_⟩
      refine ⟨_, (O5.at 4 rfl rfl), ?_⟩
      obtain ⟨hp65, H⟩ := H
      obtain ⟨r63, hr64⟩ : ∃ r_, r_ = M.laws_toBlock s0 := ⟨_, rfl⟩
      have H := H r63 hr64
      refine (laws_toBlock.con hp65 hr64 (R0_0.ext hB) hc0_0 (R0_1.ext hB) hc0_1 (R0_2.ext hB) hc0_2).mono ?_
      rintro _ w66 ⟨A68, c69, A70, c71, F74, A72, c73, rfl, P14, P15, P16, N15_16, e67⟩
      have N14_5 := P14.apart_old O5.lt
      have N6_14 := Own.apart2_new O6 P14 (Nat.le_refl _)
      have N7_14 := O7.dis_new P14 (Nat.le_refl _)
      have N8_14 := Own.apart2_new O8 P14 (Nat.le_refl _)
      have N9_14 := Own.apart2_new O9 P14 (Nat.le_refl _)
      have N10_14 := Own.apart2_new O10 P14 (Nat.le_refl _)
      have N11_14 := O11.dis_new P14 (Nat.le_refl _)
      have N12_14 := Own.apart2_new O12 P14 (Nat.le_refl _)
      have N14_13 := P14.apart_old O13.lt
      have N15_5 := P15.new_disbox O5 (Nat.le_refl _)
      have N15_6 := P15.new_dis O6 (Nat.le_refl _)
      have N7_15 := O7.dis_neww P15 (Nat.le_refl _)
      have N15_8 := P15.new_dis O8 (Nat.le_refl _)
      have N15_9 := P15.new_dis O9 (Nat.le_refl _)
      have N15_10 := P15.new_dis O10 (Nat.le_refl _)
      have N11_15 := O11.dis_neww P15 (Nat.le_refl _)
      have N15_12 := P15.new_dis O12 (Nat.le_refl _)
      have N15_13 := P15.new_disbox O13 (Nat.le_refl _)
      have N16_5 := P16.apart_old O5.lt
      have N6_16 := Own.apart2_new O6 P16 (Nat.le_refl _)
      have N7_16 := O7.dis_new P16 (Nat.le_refl _)
      have N8_16 := Own.apart2_new O8 P16 (Nat.le_refl _)
      have N9_16 := Own.apart2_new O9 P16 (Nat.le_refl _)
      have N10_16 := Own.apart2_new O10 P16 (Nat.le_refl _)
      have N11_16 := O11.dis_new P16 (Nat.le_refl _)
      have N12_16 := Own.apart2_new O12 P16 (Nat.le_refl _)
      have N16_13 := P16.apart_old O13.lt
      have O5 := O5.ext e67
      have O6 := O6.ext e67
      have O7 := O7.ext e67
      have O8 := O8.ext e67
      have O9 := O9.ext e67
      have O10 := O10.ext e67
      have O11 := O11.ext e67
      have O12 := O12.ext e67
      have O13 := O13.ext e67
      have O14 := P14.mono hB.size
      have O15 := P15.mono hB.size
      have O16 := P16.mono hB.size
      have hB := ethen hB e67
      refine ⟨A68, r63.Code.length, c69, trivial, ?_⟩
      refine ⟨A70, r63.Warps.length, c71, trivial, ?_⟩
      refine ⟨A72, r63.Memory.length, c73, trivial, ?_⟩
      refine ⟨r63.Waiting, trivial, ?_⟩
      refine ⟨r63.Phase, trivial, ?_⟩
      refine ⟨rfl, ?_⟩
      refine newBlk (fun g17_ w75 L17 P17 e76 => ?_)
      have N5_17 := O5.ne L17
      have N6_17 := O6.apart_new L17
      have N7_17 := O7.dis_newbox L17
      have N8_17 := O8.apart_new L17
      have N9_17 := O9.apart_new L17
      have N10_17 := O10.apart_new L17
      have N11_17 := O11.dis_newbox L17
      have N12_17 := O12.apart_new L17
      have N13_17 := O13.ne L17
      have N14_17 := O14.apart_new L17
      have N15_17 := O15.dis_newbox L17
      have N16_17 := O16.apart_new L17
      have O5 := O5.ext e76
      have O6 := O6.ext e76
      have O7 := O7.ext e76
      have O8 := O8.ext e76
      have O9 := O9.ext e76
      have O10 := O10.ext e76
      have O11 := O11.ext e76
      have O12 := O12.ext e76
      have O13 := O13.ext e76
      have O14 := O14.ext e76
      have O15 := O15.ext e76
      have O16 := O16.ext e76
      have O17 := P17
      have L17 := Nat.le_trans hB.size L17
      have hB := ethen hB e76
      refine stBlk O17 (o := 0) (cs' := #[(.slice A68 r63.Code.length c69), (.slice A70 r63.Warps.length c71), (.slice A72 r63.Memory.length c73), (.int .i64 r63.Waiting), (.int .i64 r63.Phase)]) rfl rfl (Nat.le_of_ble_eq_true rfl) rfl (fun w77 P17 e78 => ?_)
      have O5_ := O5.chg e78 N5_17
      have O6_ := O6.chg e78 N6_17
      have O7_ := O7.chg e78 N7_17
      have O8_ := O8.chg e78 N8_17
      have O9_ := O9.chg e78 N9_17
      have O10_ := O10.chg e78 N10_17
      have O11_ := O11.chg e78 N11_17
      have O12_ := O12.chg e78 N12_17
      have O13_ := O13.chg e78 N13_17
      have O14_ := O14.chg e78 N14_17
      have O15_ := O15.chg e78 N15_17
      have O16_ := O16.chg e78 N16_17
      have O5 := O5_
      have O6 := O6_
      have O7 := O7_
      have O8 := O8_
      have O9 := O9_
      have O10 := O10_
      have O11 := O11_
      have O12 := O12_
      have O13 := O13_
      have O14 := O14_
      have O15 := O15_
      have O16 := O16_
      have hB := echg hB e78 L17
      have O17 := P17
      obtain ⟨hp81, H⟩ := H
      obtain ⟨r79, hr80⟩ : ∃ r_, r_ = M.laws_toIntS xs1 := ⟨_, rfl⟩
      have H := H r79 hr80
      refine (laws_toIntS.con hp81 hr80 (R1.ext hB) hc1).mono ?_
      rintro _ w82 ⟨A84, c85, rfl, P18, e83⟩
      have N18_5 := P18.apart_old O5.lt
      have N6_18 := Own.apart2_new O6 P18 (Nat.le_refl _)
      have N7_18 := O7.dis_new P18 (Nat.le_refl _)
      have N8_18 := Own.apart2_new O8 P18 (Nat.le_refl _)
      have N9_18 := Own.apart2_new O9 P18 (Nat.le_refl _)
      have N10_18 := Own.apart2_new O10 P18 (Nat.le_refl _)
      have N11_18 := O11.dis_new P18 (Nat.le_refl _)
      have N12_18 := Own.apart2_new O12 P18 (Nat.le_refl _)
      have N18_13 := P18.apart_old O13.lt
      have N14_18 := Own.apart2_new O14 P18 (Nat.le_refl _)
      have N15_18 := O15.dis_new P18 (Nat.le_refl _)
      have N16_18 := Own.apart2_new O16 P18 (Nat.le_refl _)
      have N18_17 := P18.apart_old O17.lt
      have O5 := O5.ext e83
      have O6 := O6.ext e83
      have O7 := O7.ext e83
      have O8 := O8.ext e83
      have O9 := O9.ext e83
      have O10 := O10.ext e83
      have O11 := O11.ext e83
      have O12 := O12.ext e83
      have O13 := O13.ext e83
      have O14 := O14.ext e83
      have O15 := O15.ext e83
      have O16 := O16.ext e83
      have O17 := O17.ext e83
      have O18 := P18.mono hB.size
      have hB := ethen hB e83
      refine ⟨A84, r79.length, c85, rfl, ?_⟩
      refine ⟨_, _, _, (O17.at 0 rfl rfl), ?_⟩
      refine ⟨_, _, _, (O17.at 1 rfl rfl), ?_⟩
      refine ⟨_, _, _, (O17.at 2 rfl rfl), ?_⟩
      refine ⟨_, (O17.at 3 rfl rfl), ?_⟩
      refine ⟨_, (O17.at 4 rfl rfl), ?_⟩
      obtain ⟨hp88, H⟩ := H
      obtain ⟨r86, hr87⟩ : ∃ r_, r_ = M.impl_WithMemory r63 r79 := ⟨_, rfl⟩
      have H := H r86 hr87
      refine (impl_WithMemory.con hp88 hr87 O14.row O14.le O15.row O15.le O16.row O16.le O18.row O18.le).mono ?_
      rintro _ w89 ⟨A91, c92, A93, c94, F97, A95, c96, rfl, P19, P20, P21, N20_21, e90⟩
      have N19_5 := P19.apart_old O5.lt
      have N6_19 := Own.apart2_new O6 P19 (Nat.le_refl _)
      have N7_19 := O7.dis_new P19 (Nat.le_refl _)
      have N8_19 := Own.apart2_new O8 P19 (Nat.le_refl _)
      have N9_19 := Own.apart2_new O9 P19 (Nat.le_refl _)
      have N10_19 := Own.apart2_new O10 P19 (Nat.le_refl _)
      have N11_19 := O11.dis_new P19 (Nat.le_refl _)
      have N12_19 := Own.apart2_new O12 P19 (Nat.le_refl _)
      have N19_13 := P19.apart_old O13.lt
      have N14_19 := Own.apart2_new O14 P19 (Nat.le_refl _)
      have N15_19 := O15.dis_new P19 (Nat.le_refl _)
      have N16_19 := Own.apart2_new O16 P19 (Nat.le_refl _)
      have N19_17 := P19.apart_old O17.lt
      have N18_19 := Own.apart2_new O18 P19 (Nat.le_refl _)
      have N20_5 := P20.new_disbox O5 (Nat.le_refl _)
      have N20_6 := P20.new_dis O6 (Nat.le_refl _)
      have N7_20 := O7.dis_neww P20 (Nat.le_refl _)
      have N20_8 := P20.new_dis O8 (Nat.le_refl _)
      have N20_9 := P20.new_dis O9 (Nat.le_refl _)
      have N20_10 := P20.new_dis O10 (Nat.le_refl _)
      have N11_20 := O11.dis_neww P20 (Nat.le_refl _)
      have N20_12 := P20.new_dis O12 (Nat.le_refl _)
      have N20_13 := P20.new_disbox O13 (Nat.le_refl _)
      have N20_14 := P20.new_dis O14 (Nat.le_refl _)
      have N15_20 := O15.dis_neww P20 (Nat.le_refl _)
      have N20_16 := P20.new_dis O16 (Nat.le_refl _)
      have N20_17 := P20.new_disbox O17 (Nat.le_refl _)
      have N20_18 := P20.new_dis O18 (Nat.le_refl _)
      have N21_5 := P21.apart_old O5.lt
      have N6_21 := Own.apart2_new O6 P21 (Nat.le_refl _)
      have N7_21 := O7.dis_new P21 (Nat.le_refl _)
      have N8_21 := Own.apart2_new O8 P21 (Nat.le_refl _)
      have N9_21 := Own.apart2_new O9 P21 (Nat.le_refl _)
      have N10_21 := Own.apart2_new O10 P21 (Nat.le_refl _)
      have N11_21 := O11.dis_new P21 (Nat.le_refl _)
      have N12_21 := Own.apart2_new O12 P21 (Nat.le_refl _)
      have N21_13 := P21.apart_old O13.lt
      have N14_21 := Own.apart2_new O14 P21 (Nat.le_refl _)
      have N15_21 := O15.dis_new P21 (Nat.le_refl _)
      have N16_21 := Own.apart2_new O16 P21 (Nat.le_refl _)
      have N21_17 := P21.apart_old O17.lt
      have N18_21 := Own.apart2_new O18 P21 (Nat.le_refl _)
      have O5 := O5.ext e90
      have O6 := O6.ext e90
      have O7 := O7.ext e90
      have O8 := O8.ext e90
      have O9 := O9.ext e90
      have O10 := O10.ext e90
      have O11 := O11.ext e90
      have O12 := O12.ext e90
      have O13 := O13.ext e90
      have O14 := O14.ext e90
      have O15 := O15.ext e90
      have O16 := O16.ext e90
      have O17 := O17.ext e90
      have O18 := O18.ext e90
      have O19 := P19.mono hB.size
      have O20 := P20.mono hB.size
      have O21 := P21.mono hB.size
      have hB := ethen hB e90
      refine ⟨(.agg #[(.slice A91 r86.1.Code.length c92), (.slice A93 r86.1.Warps.length c94), (.slice A95 r86.1.Memory.length c96), (.int .i64 r86.1.Waiting), (.int .i64 r86.1.Phase)]), ?_⟩
      refine ⟨A91, r86.1.Code.length, c92, trivial, ?_⟩
      refine ⟨A93, r86.1.Warps.length, c94, trivial, ?_⟩
      refine ⟨A95, r86.1.Memory.length, c96, trivial, ?_⟩
      refine ⟨r86.1.Waiting, trivial, ?_⟩
      refine ⟨r86.1.Phase, trivial, ?_⟩
      refine ⟨rfl, ?_⟩
      refine ⟨(.bool r86.2), ?_⟩
      refine ⟨r86.2, rfl, ?_⟩
      refine ⟨rfl, ?_⟩
      refine newBlk (fun g22_ w98 L22 P22 e99 => ?_)
      have N5_22 := O5.ne L22
      have N6_22 := O6.apart_new L22
      have N7_22 := O7.dis_newbox L22
      have N8_22 := O8.apart_new L22
      have N9_22 := O9.apart_new L22
      have N10_22 := O10.apart_new L22
      have N11_22 := O11.dis_newbox L22
      have N12_22 := O12.apart_new L22
      have N13_22 := O13.ne L22
      have N14_22 := O14.apart_new L22
      have N15_22 := O15.dis_newbox L22
      have N16_22 := O16.apart_new L22
      have N17_22 := O17.ne L22
      have N18_22 := O18.apart_new L22
      have N19_22 := O19.apart_new L22
      have N20_22 := O20.dis_newbox L22
      have N21_22 := O21.apart_new L22
      have O5 := O5.ext e99
      have O6 := O6.ext e99
      have O7 := O7.ext e99
      have O8 := O8.ext e99
      have O9 := O9.ext e99
      have O10 := O10.ext e99
      have O11 := O11.ext e99
      have O12 := O12.ext e99
      have O13 := O13.ext e99
      have O14 := O14.ext e99
      have O15 := O15.ext e99
      have O16 := O16.ext e99
      have O17 := O17.ext e99
      have O18 := O18.ext e99
      have O19 := O19.ext e99
      have O20 := O20.ext e99
      have O21 := O21.ext e99
      have O22 := P22
      have L22 := Nat.le_trans hB.size L22
      have hB := ethen hB e99
      refine stBlk O22 (o := 0) (cs' := #[(.slice A91 r86.1.Code.length c92), (.slice A93 r86.1.Warps.length c94), (.slice A95 r86.1.Memory.length c96), (.int .i64 r86.1.Waiting), (.int .i64 r86.1.Phase)]) rfl rfl (Nat.le_of_ble_eq_true rfl) rfl (fun w100 P22 e101 => ?_)
      have O5_ := O5.chg e101 N5_22
      have O6_ := O6.chg e101 N6_22
      have O7_ := O7.chg e101 N7_22
      have O8_ := O8.chg e101 N8_22
      have O9_ := O9.chg e101 N9_22
      have O10_ := O10.chg e101 N10_22
      have O11_ := O11.chg e101 N11_22
      have O12_ := O12.chg e101 N12_22
      have O13_ := O13.chg e101 N13_22
      have O14_ := O14.chg e101 N14_22
      have O15_ := O15.chg e101 N15_22
      have O16_ := O16.chg e101 N16_22
      have O17_ := O17.chg e101 N17_22
      have O18_ := O18.chg e101 N18_22
      have O19_ := O19.chg e101 N19_22
      have O20_ := O20.chg e101 N20_22
      have O21_ := O21.chg e101 N21_22
      have O5 := O5_
      have O6 := O6_
      have O7 := O7_
      have O8 := O8_
      have O9 := O9_
      have O10 := O10_
      have O11 := O11_
      have O12 := O12_
      have O13 := O13_
      have O14 := O14_
      have O15 := O15_
      have O16 := O16_
      have O17 := O17_
      have O18 := O18_
      have O19 := O19_
      have O20 := O20_
      have O21 := O21_
      have hB := echg hB e101 L22
      have O22 := P22
      refine ⟨_, _, _, (O22.at 0 rfl rfl), ?_⟩
      refine ⟨_, _, _, (O22.at 1 rfl rfl), ?_⟩
      refine ⟨_, _, _, (O22.at 2 rfl rfl), ?_⟩
      refine ⟨_, (O22.at 3 rfl rfl), ?_⟩
      refine ⟨_, (O22.at 4 rfl rfl), ?_⟩
      refine ⟨_, _, _, (O13.at 0 rfl rfl), ?_⟩
      refine ⟨_, _, _, (O13.at 1 rfl rfl), ?_⟩
      refine ⟨_, _, _, (O13.at 2 rfl rfl), ?_⟩
      refine ⟨_, (O13.at 3 rfl rfl), ?_⟩
      refine ⟨_, (O13.at 4 rfl rfl), ?_⟩
      obtain ⟨hp104, H⟩ := H
      obtain ⟨r102, hr103⟩ : ∃ r_, r_ = M.laws_eqBlock r86.1 r47.1 := ⟨_, rfl⟩
      have H := H r102 hr103
      refine (laws_eqBlock.con hp104 hr103 O19.row O19.le O20.row O20.le O21.row O21.le O10.row O10.le O11.row O11.le O12.row O12.le).mono ?_
      rintro _ w105 ⟨rfl, e106⟩
      have O5 := O5.ext e106
      have O6 := O6.ext e106
      have O7 := O7.ext e106
      have O8 := O8.ext e106
      have O9 := O9.ext e106
      have O10 := O10.ext e106
      have O11 := O11.ext e106
      have O12 := O12.ext e106
      have O13 := O13.ext e106
      have O14 := O14.ext e106
      have O15 := O15.ext e106
      have O16 := O16.ext e106
      have O17 := O17.ext e106
      have O18 := O18.ext e106
      have O19 := O19.ext e106
      have O20 := O20.ext e106
      have O21 := O21.ext e106
      have O22 := O22.ext e106
      have hB := ethen hB e106
      refine ⟨r102, rfl, ?_⟩
      refine bcase_mk (fun hc226 => ?_) (fun hc226 => ?_)
      · have H := (bcase_iff.1 H).1 hc226
        obtain rfl := hr.trans H.symm
        exact ⟨rfl, hB⟩
      · have H := (bcase_iff.1 H).2 hc226
        refine bcase_mk (fun hc225 => ?_) (fun hc225 => ?_)
        · have H := (bcase_iff.1 H).1 hc225
          obtain rfl := hr.trans H.symm
          exact ⟨rfl, hB⟩
        · have H := (bcase_iff.1 H).2 hc225
          refine ⟨(fun _ => False), ?_⟩
          refine ⟨_, _, _, ⟨(fun h_ => h_), (O17.at 0 rfl rfl)⟩, ?_⟩
          refine ⟨_, _, _, ⟨(fun h_ => h_), (O17.at 1 rfl rfl)⟩, ?_⟩
          refine ⟨_, _, _, ⟨(fun h_ => h_), (O17.at 2 rfl rfl)⟩, ?_⟩
          refine ⟨_, ⟨(fun h_ => h_), (O17.at 3 rfl rfl)⟩, ?_⟩
          refine ⟨_, ⟨(fun h_ => h_), (O17.at 4 rfl rfl)⟩, ?_⟩
          refine ⟨_, _, _, ⟨(fun h_ => h_), (O5.at 0 rfl rfl)⟩, ?_⟩
          refine ⟨_, _, _, ⟨(fun h_ => h_), (O5.at 1 rfl rfl)⟩, ?_⟩
          refine ⟨_, _, _, ⟨(fun h_ => h_), (O5.at 2 rfl rfl)⟩, ?_⟩
          refine ⟨_, ⟨(fun h_ => h_), (O5.at 3 rfl rfl)⟩, ?_⟩
          refine ⟨_, ⟨(fun h_ => h_), (O5.at 4 rfl rfl)⟩, ?_⟩
          have hS107 := Chg.refl (fun _ => False) w105
          have O5 := O5.ext (Ext.drew _)
          have O6 := O6.ext (Ext.drew _)
          have O7 := O7.ext (Ext.drew _)
          have O8 := O8.ext (Ext.drew _)
          have O9 := O9.ext (Ext.drew _)
          have O10 := O10.ext (Ext.drew _)
          have O11 := O11.ext (Ext.drew _)
          have O12 := O12.ext (Ext.drew _)
          have O13 := O13.ext (Ext.drew _)
          have O14 := O14.ext (Ext.drew _)
          have O15 := O15.ext (Ext.drew _)
          have O16 := O16.ext (Ext.drew _)
          have O17 := O17.ext (Ext.drew _)
          have O18 := O18.ext (Ext.drew _)
          have O19 := O19.ext (Ext.drew _)
          have O20 := O20.ext (Ext.drew _)
          have O21 := O21.ext (Ext.drew _)
          have O22 := O22.ext (Ext.drew _)
          have hB := ethen hB (Ext.drew _)
          have hS107 := hS107.then (Ext.drew _)
          obtain ⟨hp110, H⟩ := H
          obtain ⟨r108, hr109⟩ : ∃ r_, r_ = M.laws_toBlock s0 := ⟨_, rfl⟩
          have H := H r108 hr109
          refine (laws_toBlock.con hp110 hr109 (R0_0.ext hB) hc0_0 (R0_1.ext hB) hc0_1 (R0_2.ext hB) hc0_2).mono ?_
          rintro _ w111 ⟨A113, c114, A115, c116, F119, A117, c118, rfl, P23, P24, P25, N24_25, e112⟩
          have N23_5 := P23.apart_old O5.lt
          have N6_23 := Own.apart2_new O6 P23 (Nat.le_refl _)
          have N7_23 := O7.dis_new P23 (Nat.le_refl _)
          have N8_23 := Own.apart2_new O8 P23 (Nat.le_refl _)
          have N9_23 := Own.apart2_new O9 P23 (Nat.le_refl _)
          have N10_23 := Own.apart2_new O10 P23 (Nat.le_refl _)
          have N11_23 := O11.dis_new P23 (Nat.le_refl _)
          have N12_23 := Own.apart2_new O12 P23 (Nat.le_refl _)
          have N23_13 := P23.apart_old O13.lt
          have N14_23 := Own.apart2_new O14 P23 (Nat.le_refl _)
          have N15_23 := O15.dis_new P23 (Nat.le_refl _)
          have N16_23 := Own.apart2_new O16 P23 (Nat.le_refl _)
          have N23_17 := P23.apart_old O17.lt
          have N18_23 := Own.apart2_new O18 P23 (Nat.le_refl _)
          have N19_23 := Own.apart2_new O19 P23 (Nat.le_refl _)
          have N20_23 := O20.dis_new P23 (Nat.le_refl _)
          have N21_23 := Own.apart2_new O21 P23 (Nat.le_refl _)
          have N23_22 := P23.apart_old O22.lt
          have N24_5 := P24.new_disbox O5 (Nat.le_refl _)
          have N24_6 := P24.new_dis O6 (Nat.le_refl _)
          have N7_24 := O7.dis_neww P24 (Nat.le_refl _)
          have N24_8 := P24.new_dis O8 (Nat.le_refl _)
          have N24_9 := P24.new_dis O9 (Nat.le_refl _)
          have N24_10 := P24.new_dis O10 (Nat.le_refl _)
          have N11_24 := O11.dis_neww P24 (Nat.le_refl _)
          have N24_12 := P24.new_dis O12 (Nat.le_refl _)
          have N24_13 := P24.new_disbox O13 (Nat.le_refl _)
          have N24_14 := P24.new_dis O14 (Nat.le_refl _)
          have N15_24 := O15.dis_neww P24 (Nat.le_refl _)
          have N24_16 := P24.new_dis O16 (Nat.le_refl _)
          have N24_17 := P24.new_disbox O17 (Nat.le_refl _)
          have N24_18 := P24.new_dis O18 (Nat.le_refl _)
          have N24_19 := P24.new_dis O19 (Nat.le_refl _)
          have N20_24 := O20.dis_neww P24 (Nat.le_refl _)
          have N24_21 := P24.new_dis O21 (Nat.le_refl _)
          have N24_22 := P24.new_disbox O22 (Nat.le_refl _)
          have N25_5 := P25.apart_old O5.lt
          have N6_25 := Own.apart2_new O6 P25 (Nat.le_refl _)
          have N7_25 := O7.dis_new P25 (Nat.le_refl _)
          have N8_25 := Own.apart2_new O8 P25 (Nat.le_refl _)
          have N9_25 := Own.apart2_new O9 P25 (Nat.le_refl _)
          have N10_25 := Own.apart2_new O10 P25 (Nat.le_refl _)
          have N11_25 := O11.dis_new P25 (Nat.le_refl _)
          have N12_25 := Own.apart2_new O12 P25 (Nat.le_refl _)
          have N25_13 := P25.apart_old O13.lt
          have N14_25 := Own.apart2_new O14 P25 (Nat.le_refl _)
          have N15_25 := O15.dis_new P25 (Nat.le_refl _)
          have N16_25 := Own.apart2_new O16 P25 (Nat.le_refl _)
          have N25_17 := P25.apart_old O17.lt
          have N18_25 := Own.apart2_new O18 P25 (Nat.le_refl _)
          have N19_25 := Own.apart2_new O19 P25 (Nat.le_refl _)
          have N20_25 := O20.dis_new P25 (Nat.le_refl _)
          have N21_25 := Own.apart2_new O21 P25 (Nat.le_refl _)
          have N25_22 := P25.apart_old O22.lt
          have O5 := O5.ext e112
          have O6 := O6.ext e112
          have O7 := O7.ext e112
          have O8 := O8.ext e112
          have O9 := O9.ext e112
          have O10 := O10.ext e112
          have O11 := O11.ext e112
          have O12 := O12.ext e112
          have O13 := O13.ext e112
          have O14 := O14.ext e112
          have O15 := O15.ext e112
          have O16 := O16.ext e112
          have O17 := O17.ext e112
          have O18 := O18.ext e112
          have O19 := O19.ext e112
          have O20 := O20.ext e112
          have O21 := O21.ext e112
          have O22 := O22.ext e112
          have LB23 := (P23.mono hS107.size).low
          have LB24 := (P24.mono hS107.size).lowW
          have LB25 := (P25.mono hS107.size).low
          have O23 := P23.mono hB.size
          have O24 := P24.mono hB.size
          have O25 := P25.mono hB.size
          have hB := ethen hB e112
          have hS107 := hS107.then e112
          refine ⟨A113, r108.Code.length, c114, trivial, ?_⟩
          refine ⟨A115, r108.Warps.length, c116, trivial, ?_⟩
          refine ⟨A117, r108.Memory.length, c118, trivial, ?_⟩
          refine ⟨r108.Waiting, trivial, ?_⟩
          refine ⟨r108.Phase, trivial, ?_⟩
          refine ⟨rfl, ?_⟩
          refine ⟨sameBut_chg hS107, ?_⟩
          obtain ⟨hp122, H⟩ := H
          obtain ⟨r120, hr121⟩ : ∃ r_, r_ = M.laws_eqBlock r63 r108 := ⟨_, rfl⟩
          have H := H r120 hr121
          refine (laws_eqBlock.con hp122 hr121 O14.row O14.le O15.row O15.le O16.row O16.le O23.row O23.le O24.row O24.le O25.row O25.le).mono ?_
          rintro _ w123 ⟨rfl, e124⟩
          have O5 := O5.ext e124
          have O6 := O6.ext e124
          have O7 := O7.ext e124
          have O8 := O8.ext e124
          have O9 := O9.ext e124
          have O10 := O10.ext e124
          have O11 := O11.ext e124
          have O12 := O12.ext e124
          have O13 := O13.ext e124
          have O14 := O14.ext e124
          have O15 := O15.ext e124
          have O16 := O16.ext e124
          have O17 := O17.ext e124
          have O18 := O18.ext e124
          have O19 := O19.ext e124
          have O20 := O20.ext e124
          have O21 := O21.ext e124
          have O22 := O22.ext e124
          have O23 := O23.ext e124
          have O24 := O24.ext e124
          have O25 := O25.ext e124
          have hB := ethen hB e124
          have hS107 := hS107.then e124
          refine ⟨r120, rfl, ?_⟩
          refine ⟨sameBut_chg hS107, ?_⟩
          refine bcase_mk (fun hc224 => ?_) (fun hc224 => ?_)
          · have H := (bcase_iff.1 H).1 hc224
            obtain rfl := hr.trans H.symm
            exact ⟨rfl, hB⟩
          · have H := (bcase_iff.1 H).2 hc224
            obtain ⟨hp127, H⟩ := H
            obtain ⟨r125, hr126⟩ : ∃ r_, r_ = M.laws_toIntS xs1 := ⟨_, rfl⟩
            have H := H r125 hr126
            refine (laws_toIntS.con hp127 hr126 (R1.ext hB) hc1).mono ?_
            rintro _ w128 ⟨A130, c131, rfl, P26, e129⟩
            have N26_5 := P26.apart_old O5.lt
            have N6_26 := Own.apart2_new O6 P26 (Nat.le_refl _)
            have N7_26 := O7.dis_new P26 (Nat.le_refl _)
            have N8_26 := Own.apart2_new O8 P26 (Nat.le_refl _)
            have N9_26 := Own.apart2_new O9 P26 (Nat.le_refl _)
            have N10_26 := Own.apart2_new O10 P26 (Nat.le_refl _)
            have N11_26 := O11.dis_new P26 (Nat.le_refl _)
            have N12_26 := Own.apart2_new O12 P26 (Nat.le_refl _)
            have N26_13 := P26.apart_old O13.lt
            have N14_26 := Own.apart2_new O14 P26 (Nat.le_refl _)
            have N15_26 := O15.dis_new P26 (Nat.le_refl _)
            have N16_26 := Own.apart2_new O16 P26 (Nat.le_refl _)
            have N26_17 := P26.apart_old O17.lt
            have N18_26 := Own.apart2_new O18 P26 (Nat.le_refl _)
            have N19_26 := Own.apart2_new O19 P26 (Nat.le_refl _)
            have N20_26 := O20.dis_new P26 (Nat.le_refl _)
            have N21_26 := Own.apart2_new O21 P26 (Nat.le_refl _)
            have N26_22 := P26.apart_old O22.lt
            have N23_26 := Own.apart2_new O23 P26 (Nat.le_refl _)
            have N24_26 := O24.dis_new P26 (Nat.le_refl _)
            have N25_26 := Own.apart2_new O25 P26 (Nat.le_refl _)
            have O5 := O5.ext e129
            have O6 := O6.ext e129
            have O7 := O7.ext e129
            have O8 := O8.ext e129
            have O9 := O9.ext e129
            have O10 := O10.ext e129
            have O11 := O11.ext e129
            have O12 := O12.ext e129
            have O13 := O13.ext e129
            have O14 := O14.ext e129
            have O15 := O15.ext e129
            have O16 := O16.ext e129
            have O17 := O17.ext e129
            have O18 := O18.ext e129
            have O19 := O19.ext e129
            have O20 := O20.ext e129
            have O21 := O21.ext e129
            have O22 := O22.ext e129
            have O23 := O23.ext e129
            have O24 := O24.ext e129
            have O25 := O25.ext e129
            have O26 := P26.mono hB.size
            have hB := ethen hB e129
            refine ⟨A130, r125.length, c131, rfl, ?_⟩
            obtain ⟨hp134, H⟩ := H
            obtain ⟨r132, hr133⟩ : ∃ r_, r_ = M.laws_eqIntS r79 r125 := ⟨_, rfl⟩
            have H := H r132 hr133
            refine (laws_eqIntS.con hp134 hr133 O18.row O18.le O26.row O26.le).mono ?_
            rintro _ w135 ⟨rfl, e136⟩
            have O5 := O5.ext e136
            have O6 := O6.ext e136
            have O7 := O7.ext e136
            have O8 := O8.ext e136
            have O9 := O9.ext e136
            have O10 := O10.ext e136
            have O11 := O11.ext e136
            have O12 := O12.ext e136
            have O13 := O13.ext e136
            have O14 := O14.ext e136
            have O15 := O15.ext e136
            have O16 := O16.ext e136
            have O17 := O17.ext e136
            have O18 := O18.ext e136
            have O19 := O19.ext e136
            have O20 := O20.ext e136
            have O21 := O21.ext e136
            have O22 := O22.ext e136
            have O23 := O23.ext e136
            have O24 := O24.ext e136
            have O25 := O25.ext e136
            have O26 := O26.ext e136
            have hB := ethen hB e136
            refine ⟨r132, rfl, ?_⟩
            refine bcase_mk (fun hc223 => ?_) (fun hc223 => ?_)
            · have H := (bcase_iff.1 H).1 hc223
              obtain rfl := hr.trans H.symm
              exact ⟨rfl, hB⟩
            · have H := (bcase_iff.1 H).2 hc223
              refine ⟨_, _, _, (O17.at 0 rfl rfl), ?_⟩
              refine ⟨_, _, _, (O17.at 1 rfl rfl), ?_⟩
              refine ⟨_, _, _, (O17.at 2 rfl rfl), ?_⟩
              refine ⟨_, (O17.at 3 rfl rfl), ?_⟩
              refine ⟨_, (O17.at 4 rfl rfl), ?_⟩
              obtain ⟨hp139, H⟩ := H
              obtain ⟨r137, hr138⟩ : ∃ r_, r_ = M.laws_markBlock r63 1 := ⟨_, rfl⟩
              have H := H r137 hr138
              refine (laws_markBlock.con hp139 hr138 (O14.mono (Nat.zero_le _)) (O15.mono (Nat.zero_le _)) (O16.mono (Nat.zero_le _)) N15_16).mono ?_
              rintro _ w140 ⟨rfl, Q14, hl142, Q15, hl143, Q16, hl144, e141⟩
              have O5 := O5.chgS e141 (fun hS_ => hS_.elim (N14_5).inb (fun hS_ => hS_.elim N15_5 (N16_5).inb))
              have O6 := O6.chgS e141 (fun g h_ => (fun hS_ => hS_.elim ((N6_14).inb g h_) (fun hS_ => hS_.elim ((N15_6).symm g h_) ((N6_16).inb g h_))))
              have O7 := O7.kept e141 (fun g h_ => (fun hS_ => hS_.elim (N7_14 g h_) (fun hS_ => hS_.elim (N7_15 g h_) (N7_16 g h_))))
              have O8 := O8.chgS e141 (fun g h_ => (fun hS_ => hS_.elim ((N8_14).inb g h_) (fun hS_ => hS_.elim ((N15_8).symm g h_) ((N8_16).inb g h_))))
              have O9 := O9.chgS e141 (fun g h_ => (fun hS_ => hS_.elim ((N9_14).inb g h_) (fun hS_ => hS_.elim ((N15_9).symm g h_) ((N9_16).inb g h_))))
              have O10 := O10.chgS e141 (fun g h_ => (fun hS_ => hS_.elim ((N10_14).inb g h_) (fun hS_ => hS_.elim ((N15_10).symm g h_) ((N10_16).inb g h_))))
              have O11 := O11.kept e141 (fun g h_ => (fun hS_ => hS_.elim (N11_14 g h_) (fun hS_ => hS_.elim (N11_15 g h_) (N11_16 g h_))))
              have O12 := O12.chgS e141 (fun g h_ => (fun hS_ => hS_.elim ((N12_14).inb g h_) (fun hS_ => hS_.elim ((N15_12).symm g h_) ((N12_16).inb g h_))))
              have O13 := O13.chgS e141 (fun hS_ => hS_.elim (N14_13).inb (fun hS_ => hS_.elim N15_13 (N16_13).inb))
              have O17 := O17.chgS e141 (fun hS_ => hS_.elim (N14_17).inb (fun hS_ => hS_.elim N15_17 (N16_17).inb))
              have O18 := O18.chgS e141 (fun g h_ => (fun hS_ => hS_.elim (((N14_18).symm).inb g h_) (fun hS_ => hS_.elim ((N15_18).symm g h_) (((N16_18).symm).inb g h_))))
              have O19 := O19.chgS e141 (fun g h_ => (fun hS_ => hS_.elim (((N14_19).symm).inb g h_) (fun hS_ => hS_.elim ((N15_19).symm g h_) (((N16_19).symm).inb g h_))))
              have O20 := O20.kept e141 (fun g h_ => (fun hS_ => hS_.elim (N20_14 g h_) (fun hS_ => hS_.elim ((N15_20).symm g h_) (N20_16 g h_))))
              have O21 := O21.chgS e141 (fun g h_ => (fun hS_ => hS_.elim (((N14_21).symm).inb g h_) (fun hS_ => hS_.elim ((N15_21).symm g h_) (((N16_21).symm).inb g h_))))
              have O22 := O22.chgS e141 (fun hS_ => hS_.elim (N14_22).inb (fun hS_ => hS_.elim N15_22 (N16_22).inb))
              have O23 := O23.chgS e141 (fun g h_ => (fun hS_ => hS_.elim (((N14_23).symm).inb g h_) (fun hS_ => hS_.elim ((N15_23).symm g h_) (((N16_23).symm).inb g h_))))
              have O24 := O24.kept e141 (fun g h_ => (fun hS_ => hS_.elim (N24_14 g h_) (fun hS_ => hS_.elim ((N15_24).symm g h_) (N24_16 g h_))))
              have O25 := O25.chgS e141 (fun g h_ => (fun hS_ => hS_.elim (((N14_25).symm).inb g h_) (fun hS_ => hS_.elim ((N15_25).symm g h_) (((N16_25).symm).inb g h_))))
              have O26 := O26.chgS e141 (fun g h_ => (fun hS_ => hS_.elim (((N14_26).symm).inb g h_) (fun hS_ => hS_.elim ((N15_26).symm g h_) (((N16_26).symm).inb g h_))))
              have hB := Chg.ext hB e141 (fun g => (fun hS_ => hS_.elim (O14.low g) (fun hS_ => hS_.elim (O15.lowW g) (O16.low g))))
              have O14 := Q14.up O14
              have O15 := Q15.up O15
              have O16 := Q16.up O16
              refine ⟨r137.1, rfl, ?_⟩
              obtain ⟨hp147, H⟩ := H
              obtain ⟨r145, hr146⟩ : ∃ r_, r_ = M.laws_markIntS r79 r137.1 := ⟨_, rfl⟩
              have H := H r145 hr146
              refine (laws_markIntS.con hp147 hr146 (O18.mono (Nat.zero_le _))).mono ?_
              rintro _ w148 ⟨rfl, Q18, hl150, e149⟩
              have O5 := O5.chgS e149 (N18_5).inb
              have O6 := O6.chgS e149 (N6_18).inb
              have O7 := O7.kept e149 N7_18
              have O8 := O8.chgS e149 (N8_18).inb
              have O9 := O9.chgS e149 (N9_18).inb
              have O10 := O10.chgS e149 (N10_18).inb
              have O11 := O11.kept e149 N11_18
              have O12 := O12.chgS e149 (N12_18).inb
              have O13 := O13.chgS e149 (N18_13).inb
              have O14 := O14.chgS e149 (N14_18).inb
              have O15 := O15.kept e149 N15_18
              have O16 := O16.chgS e149 (N16_18).inb
              have O17 := O17.chgS e149 (N18_17).inb
              have O19 := O19.chgS e149 ((N18_19).symm).inb
              have O20 := O20.kept e149 N20_18
              have O21 := O21.chgS e149 ((N18_21).symm).inb
              have O22 := O22.chgS e149 (N18_22).inb
              have O23 := O23.chgS e149 ((N18_23).symm).inb
              have O24 := O24.kept e149 N24_18
              have O25 := O25.chgS e149 ((N18_25).symm).inb
              have O26 := O26.chgS e149 ((N18_26).symm).inb
              have hB := Chg.ext hB e149 O18.low
              have O18 := Q18.up O18
              refine ⟨r145.1, rfl, ?_⟩
              refine bcase_mk (fun hc222 => ?_) (fun hc222 => ?_)
              · have H := (bcase_iff.1 H).1 hc222
                obtain rfl := hr.trans H.symm
                exact ⟨rfl, hB⟩
              · have H := (bcase_iff.1 H).2 hc222
                refine ⟨_, _, _, (O22.at 0 rfl rfl), ?_⟩
                refine ⟨_, _, _, (O22.at 1 rfl rfl), ?_⟩
                refine ⟨_, _, _, (O22.at 2 rfl rfl), ?_⟩
                refine ⟨_, (O22.at 3 rfl rfl), ?_⟩
                refine ⟨_, (O22.at 4 rfl rfl), ?_⟩
                refine ⟨_, _, _, (O13.at 0 rfl rfl), ?_⟩
                refine ⟨_, _, _, (O13.at 1 rfl rfl), ?_⟩
                refine ⟨_, _, _, (O13.at 2 rfl rfl), ?_⟩
                refine ⟨_, (O13.at 3 rfl rfl), ?_⟩
                refine ⟨_, (O13.at 4 rfl rfl), ?_⟩
                obtain ⟨hp153, H⟩ := H
                obtain ⟨r151, hr152⟩ : ∃ r_, r_ = M.laws_eqBlock r86.1 r47.1 := ⟨_, rfl⟩
                have H := H r151 hr152
                refine (laws_eqBlock.con hp153 hr152 O19.row O19.le O20.row O20.le O21.row O21.le O10.row O10.le O11.row O11.le O12.row O12.le).mono ?_
                rintro _ w154 ⟨rfl, e155⟩
                have O5 := O5.ext e155
                have O6 := O6.ext e155
                have O7 := O7.ext e155
                have O8 := O8.ext e155
                have O9 := O9.ext e155
                have O10 := O10.ext e155
                have O11 := O11.ext e155
                have O12 := O12.ext e155
                have O13 := O13.ext e155
                have O14 := O14.ext e155
                have O15 := O15.ext e155
                have O16 := O16.ext e155
                have O17 := O17.ext e155
                have O18 := O18.ext e155
                have O19 := O19.ext e155
                have O20 := O20.ext e155
                have O21 := O21.ext e155
                have O22 := O22.ext e155
                have O23 := O23.ext e155
                have O24 := O24.ext e155
                have O25 := O25.ext e155
                have O26 := O26.ext e155
                have hB := ethen hB e155
                refine ⟨r151, rfl, ?_⟩
                refine bcase_mk (fun hc221 => ?_) (fun hc221 => ?_)
                · have H := (bcase_iff.1 H).1 hc221
                  obtain rfl := hr.trans H.symm
                  exact ⟨rfl, hB⟩
                · have H := (bcase_iff.1 H).2 hc221
                  refine bcase_mk (fun hc220 => ?_) (fun hc220 => ?_)
                  · have H := (bcase_iff.1 H).1 hc220
                    obtain rfl := hr.trans H.symm
                    exact ⟨rfl, hB⟩
                  · have H := (bcase_iff.1 H).2 hc220
                    refine ⟨_, _, _, (O22.at 0 rfl rfl), ?_⟩
                    refine ⟨_, _, _, (O22.at 1 rfl rfl), ?_⟩
                    refine ⟨_, _, _, (O22.at 2 rfl rfl), ?_⟩
                    refine ⟨_, (O22.at 3 rfl rfl), ?_⟩
                    refine ⟨_, (O22.at 4 rfl rfl), ?_⟩
                    obtain ⟨hp158, H⟩ := H
                    obtain ⟨r156, hr157⟩ : ∃ r_, r_ = M.laws_markBlock r86.1 1 := ⟨_, rfl⟩
                    have H := H r156 hr157
                    refine (laws_markBlock.con hp158 hr157 (O19.mono (Nat.zero_le _)) (O20.mono (Nat.zero_le _)) (O21.mono (Nat.zero_le _)) N20_21).mono ?_
                    rintro _ w159 ⟨rfl, Q19, hl161, Q20, hl162, Q21, hl163, e160⟩
                    have O5 := O5.chgS e160 (fun hS_ => hS_.elim (N19_5).inb (fun hS_ => hS_.elim N20_5 (N21_5).inb))
                    have O6 := O6.chgS e160 (fun g h_ => (fun hS_ => hS_.elim ((N6_19).inb g h_) (fun hS_ => hS_.elim ((N20_6).symm g h_) ((N6_21).inb g h_))))
                    have O7 := O7.kept e160 (fun g h_ => (fun hS_ => hS_.elim (N7_19 g h_) (fun hS_ => hS_.elim (N7_20 g h_) (N7_21 g h_))))
                    have O8 := O8.chgS e160 (fun g h_ => (fun hS_ => hS_.elim ((N8_19).inb g h_) (fun hS_ => hS_.elim ((N20_8).symm g h_) ((N8_21).inb g h_))))
                    have O9 := O9.chgS e160 (fun g h_ => (fun hS_ => hS_.elim ((N9_19).inb g h_) (fun hS_ => hS_.elim ((N20_9).symm g h_) ((N9_21).inb g h_))))
                    have O10 := O10.chgS e160 (fun g h_ => (fun hS_ => hS_.elim ((N10_19).inb g h_) (fun hS_ => hS_.elim ((N20_10).symm g h_) ((N10_21).inb g h_))))
                    have O11 := O11.kept e160 (fun g h_ => (fun hS_ => hS_.elim (N11_19 g h_) (fun hS_ => hS_.elim (N11_20 g h_) (N11_21 g h_))))
                    have O12 := O12.chgS e160 (fun g h_ => (fun hS_ => hS_.elim ((N12_19).inb g h_) (fun hS_ => hS_.elim ((N20_12).symm g h_) ((N12_21).inb g h_))))
                    have O13 := O13.chgS e160 (fun hS_ => hS_.elim (N19_13).inb (fun hS_ => hS_.elim N20_13 (N21_13).inb))
                    have O14 := O14.chgS e160 (fun g h_ => (fun hS_ => hS_.elim ((N14_19).inb g h_) (fun hS_ => hS_.elim ((N20_14).symm g h_) ((N14_21).inb g h_))))
                    have O15 := O15.kept e160 (fun g h_ => (fun hS_ => hS_.elim (N15_19 g h_) (fun hS_ => hS_.elim (N15_20 g h_) (N15_21 g h_))))
                    have O16 := O16.chgS e160 (fun g h_ => (fun hS_ => hS_.elim ((N16_19).inb g h_) (fun hS_ => hS_.elim ((N20_16).symm g h_) ((N16_21).inb g h_))))
                    have O17 := O17.chgS e160 (fun hS_ => hS_.elim (N19_17).inb (fun hS_ => hS_.elim N20_17 (N21_17).inb))
                    have O18 := O18.chgS e160 (fun g h_ => (fun hS_ => hS_.elim ((N18_19).inb g h_) (fun hS_ => hS_.elim ((N20_18).symm g h_) ((N18_21).inb g h_))))
                    have O22 := O22.chgS e160 (fun hS_ => hS_.elim (N19_22).inb (fun hS_ => hS_.elim N20_22 (N21_22).inb))
                    have O23 := O23.chgS e160 (fun g h_ => (fun hS_ => hS_.elim (((N19_23).symm).inb g h_) (fun hS_ => hS_.elim ((N20_23).symm g h_) (((N21_23).symm).inb g h_))))
                    have O24 := O24.kept e160 (fun g h_ => (fun hS_ => hS_.elim (N24_19 g h_) (fun hS_ => hS_.elim ((N20_24).symm g h_) (N24_21 g h_))))
                    have O25 := O25.chgS e160 (fun g h_ => (fun hS_ => hS_.elim (((N19_25).symm).inb g h_) (fun hS_ => hS_.elim ((N20_25).symm g h_) (((N21_25).symm).inb g h_))))
                    have O26 := O26.chgS e160 (fun g h_ => (fun hS_ => hS_.elim (((N19_26).symm).inb g h_) (fun hS_ => hS_.elim ((N20_26).symm g h_) (((N21_26).symm).inb g h_))))
                    have hB := Chg.ext hB e160 (fun g => (fun hS_ => hS_.elim (O19.low g) (fun hS_ => hS_.elim (O20.lowW g) (O21.low g))))
                    have O19 := Q19.up O19
                    have O20 := Q20.up O20
                    have O21 := Q21.up O21
                    refine ⟨r156.1, rfl, ?_⟩
                    refine ⟨_, _, _, (O22.at 0 rfl rfl), ?_⟩
                    refine ⟨_, _, _, (O22.at 1 rfl rfl), ?_⟩
                    refine ⟨_, _, _, (O22.at 2 rfl rfl), ?_⟩
                    refine ⟨_, (O22.at 3 rfl rfl), ?_⟩
                    refine ⟨_, (O22.at 4 rfl rfl), ?_⟩
                    obtain ⟨hp166, H⟩ := H
                    obtain ⟨r164, hr165⟩ : ∃ r_, r_ = M.laws_heldBlock (⟨r156.2.1, r156.2.2.1, r156.2.2.2, r86.1.Waiting, r86.1.Phase⟩ : D.Block) 1 := ⟨_, rfl⟩
                    have H := H r164 hr165
                    refine (cllArgs (by first | (simp only [List.length_set, hl161, hl162, hl163]; done) | (simp; done)) (laws_heldBlock.con hp166 hr165 O19.row O19.le O20.row O20.le O21.row O21.le)).mono ?_
                    rintro _ w167 ⟨rfl, e168⟩
                    have O5 := O5.ext e168
                    have O6 := O6.ext e168
                    have O7 := O7.ext e168
                    have O8 := O8.ext e168
                    have O9 := O9.ext e168
                    have O10 := O10.ext e168
                    have O11 := O11.ext e168
                    have O12 := O12.ext e168
                    have O13 := O13.ext e168
                    have O14 := O14.ext e168
                    have O15 := O15.ext e168
                    have O16 := O16.ext e168
                    have O17 := O17.ext e168
                    have O18 := O18.ext e168
                    have O19 := O19.ext e168
                    have O20 := O20.ext e168
                    have O21 := O21.ext e168
                    have O22 := O22.ext e168
                    have O23 := O23.ext e168
                    have O24 := O24.ext e168
                    have O25 := O25.ext e168
                    have O26 := O26.ext e168
                    have hB := ethen hB e168
                    refine ⟨r164, rfl, ?_⟩
                    refine bcase_mk (fun hc219 => ?_) (fun hc219 => ?_)
                    · have H := (bcase_iff.1 H).1 hc219
                      obtain rfl := hr.trans H.symm
                      exact ⟨rfl, hB⟩
                    · have H := (bcase_iff.1 H).2 hc219
                      refine bcase_mk (fun hc218 => ?_) (fun hc218 => ?_)
                      · have H := (bcase_iff.1 H).1 hc218
                        obtain rfl := hr.trans H.symm
                        exact ⟨rfl, hB⟩
                      · have H := (bcase_iff.1 H).2 hc218
                        refine ⟨_, _, _, (O5.at 0 rfl rfl), ?_⟩
                        refine ⟨_, _, _, (O5.at 1 rfl rfl), ?_⟩
                        refine ⟨_, _, _, (O5.at 2 rfl rfl), ?_⟩
                        refine ⟨_, (O5.at 3 rfl rfl), ?_⟩
                        refine ⟨_, (O5.at 4 rfl rfl), ?_⟩
                        obtain ⟨hp171, H⟩ := H
                        obtain ⟨r169, hr170⟩ : ∃ r_, r_ = M.laws_toBlock s0 := ⟨_, rfl⟩
                        have H := H r169 hr170
                        refine (laws_toBlock.con hp171 hr170 (R0_0.ext hB) hc0_0 (R0_1.ext hB) hc0_1 (R0_2.ext hB) hc0_2).mono ?_
                        rintro _ w172 ⟨A174, c175, A176, c177, F180, A178, c179, rfl, P27, P28, P29, N28_29, e173⟩
                        have N27_5 := P27.apart_old O5.lt
                        have N6_27 := Own.apart2_new O6 P27 (Nat.le_refl _)
                        have N7_27 := O7.dis_new P27 (Nat.le_refl _)
                        have N8_27 := Own.apart2_new O8 P27 (Nat.le_refl _)
                        have N9_27 := Own.apart2_new O9 P27 (Nat.le_refl _)
                        have N10_27 := Own.apart2_new O10 P27 (Nat.le_refl _)
                        have N11_27 := O11.dis_new P27 (Nat.le_refl _)
                        have N12_27 := Own.apart2_new O12 P27 (Nat.le_refl _)
                        have N27_13 := P27.apart_old O13.lt
                        have N14_27 := Own.apart2_new O14 P27 (Nat.le_refl _)
                        have N15_27 := O15.dis_new P27 (Nat.le_refl _)
                        have N16_27 := Own.apart2_new O16 P27 (Nat.le_refl _)
                        have N27_17 := P27.apart_old O17.lt
                        have N18_27 := Own.apart2_new O18 P27 (Nat.le_refl _)
                        have N19_27 := Own.apart2_new O19 P27 (Nat.le_refl _)
                        have N20_27 := O20.dis_new P27 (Nat.le_refl _)
                        have N21_27 := Own.apart2_new O21 P27 (Nat.le_refl _)
                        have N27_22 := P27.apart_old O22.lt
                        have N23_27 := Own.apart2_new O23 P27 (Nat.le_refl _)
                        have N24_27 := O24.dis_new P27 (Nat.le_refl _)
                        have N25_27 := Own.apart2_new O25 P27 (Nat.le_refl _)
                        have N26_27 := Own.apart2_new O26 P27 (Nat.le_refl _)
                        have N28_5 := P28.new_disbox O5 (Nat.le_refl _)
                        have N28_6 := P28.new_dis O6 (Nat.le_refl _)
                        have N7_28 := O7.dis_neww P28 (Nat.le_refl _)
                        have N28_8 := P28.new_dis O8 (Nat.le_refl _)
                        have N28_9 := P28.new_dis O9 (Nat.le_refl _)
                        have N28_10 := P28.new_dis O10 (Nat.le_refl _)
                        have N11_28 := O11.dis_neww P28 (Nat.le_refl _)
                        have N28_12 := P28.new_dis O12 (Nat.le_refl _)
                        have N28_13 := P28.new_disbox O13 (Nat.le_refl _)
                        have N28_14 := P28.new_dis O14 (Nat.le_refl _)
                        have N15_28 := O15.dis_neww P28 (Nat.le_refl _)
                        have N28_16 := P28.new_dis O16 (Nat.le_refl _)
                        have N28_17 := P28.new_disbox O17 (Nat.le_refl _)
                        have N28_18 := P28.new_dis O18 (Nat.le_refl _)
                        have N28_19 := P28.new_dis O19 (Nat.le_refl _)
                        have N20_28 := O20.dis_neww P28 (Nat.le_refl _)
                        have N28_21 := P28.new_dis O21 (Nat.le_refl _)
                        have N28_22 := P28.new_disbox O22 (Nat.le_refl _)
                        have N28_23 := P28.new_dis O23 (Nat.le_refl _)
                        have N24_28 := O24.dis_neww P28 (Nat.le_refl _)
                        have N28_25 := P28.new_dis O25 (Nat.le_refl _)
                        have N28_26 := P28.new_dis O26 (Nat.le_refl _)
                        have N29_5 := P29.apart_old O5.lt
                        have N6_29 := Own.apart2_new O6 P29 (Nat.le_refl _)
                        have N7_29 := O7.dis_new P29 (Nat.le_refl _)
                        have N8_29 := Own.apart2_new O8 P29 (Nat.le_refl _)
                        have N9_29 := Own.apart2_new O9 P29 (Nat.le_refl _)
                        have N10_29 := Own.apart2_new O10 P29 (Nat.le_refl _)
                        have N11_29 := O11.dis_new P29 (Nat.le_refl _)
                        have N12_29 := Own.apart2_new O12 P29 (Nat.le_refl _)
                        have N29_13 := P29.apart_old O13.lt
                        have N14_29 := Own.apart2_new O14 P29 (Nat.le_refl _)
                        have N15_29 := O15.dis_new P29 (Nat.le_refl _)
                        have N16_29 := Own.apart2_new O16 P29 (Nat.le_refl _)
                        have N29_17 := P29.apart_old O17.lt
                        have N18_29 := Own.apart2_new O18 P29 (Nat.le_refl _)
                        have N19_29 := Own.apart2_new O19 P29 (Nat.le_refl _)
                        have N20_29 := O20.dis_new P29 (Nat.le_refl _)
                        have N21_29 := Own.apart2_new O21 P29 (Nat.le_refl _)
                        have N29_22 := P29.apart_old O22.lt
                        have N23_29 := Own.apart2_new O23 P29 (Nat.le_refl _)
                        have N24_29 := O24.dis_new P29 (Nat.le_refl _)
                        have N25_29 := Own.apart2_new O25 P29 (Nat.le_refl _)
                        have N26_29 := Own.apart2_new O26 P29 (Nat.le_refl _)
                        have O5 := O5.ext e173
                        have O6 := O6.ext e173
                        have O7 := O7.ext e173
                        have O8 := O8.ext e173
                        have O9 := O9.ext e173
                        have O10 := O10.ext e173
                        have O11 := O11.ext e173
                        have O12 := O12.ext e173
                        have O13 := O13.ext e173
                        have O14 := O14.ext e173
                        have O15 := O15.ext e173
                        have O16 := O16.ext e173
                        have O17 := O17.ext e173
                        have O18 := O18.ext e173
                        have O19 := O19.ext e173
                        have O20 := O20.ext e173
                        have O21 := O21.ext e173
                        have O22 := O22.ext e173
                        have O23 := O23.ext e173
                        have O24 := O24.ext e173
                        have O25 := O25.ext e173
                        have O26 := O26.ext e173
                        have O27 := P27.mono hB.size
                        have O28 := P28.mono hB.size
                        have O29 := P29.mono hB.size
                        have hB := ethen hB e173
                        refine ⟨A174, r169.Code.length, c175, trivial, ?_⟩
                        refine ⟨A176, r169.Warps.length, c177, trivial, ?_⟩
                        refine ⟨A178, r169.Memory.length, c179, trivial, ?_⟩
                        refine ⟨r169.Waiting, trivial, ?_⟩
                        refine ⟨r169.Phase, trivial, ?_⟩
                        refine ⟨rfl, ?_⟩
                        obtain ⟨hp183, H⟩ := H
                        obtain ⟨r181, hr182⟩ : ∃ r_, r_ = M.laws_toIntS xs1 := ⟨_, rfl⟩
                        have H := H r181 hr182
                        refine (laws_toIntS.con hp183 hr182 (R1.ext hB) hc1).mono ?_
                        rintro _ w184 ⟨A186, c187, rfl, P30, e185⟩
                        have N30_5 := P30.apart_old O5.lt
                        have N6_30 := Own.apart2_new O6 P30 (Nat.le_refl _)
                        have N7_30 := O7.dis_new P30 (Nat.le_refl _)
                        have N8_30 := Own.apart2_new O8 P30 (Nat.le_refl _)
                        have N9_30 := Own.apart2_new O9 P30 (Nat.le_refl _)
                        have N10_30 := Own.apart2_new O10 P30 (Nat.le_refl _)
                        have N11_30 := O11.dis_new P30 (Nat.le_refl _)
                        have N12_30 := Own.apart2_new O12 P30 (Nat.le_refl _)
                        have N30_13 := P30.apart_old O13.lt
                        have N14_30 := Own.apart2_new O14 P30 (Nat.le_refl _)
                        have N15_30 := O15.dis_new P30 (Nat.le_refl _)
                        have N16_30 := Own.apart2_new O16 P30 (Nat.le_refl _)
                        have N30_17 := P30.apart_old O17.lt
                        have N18_30 := Own.apart2_new O18 P30 (Nat.le_refl _)
                        have N19_30 := Own.apart2_new O19 P30 (Nat.le_refl _)
                        have N20_30 := O20.dis_new P30 (Nat.le_refl _)
                        have N21_30 := Own.apart2_new O21 P30 (Nat.le_refl _)
                        have N30_22 := P30.apart_old O22.lt
                        have N23_30 := Own.apart2_new O23 P30 (Nat.le_refl _)
                        have N24_30 := O24.dis_new P30 (Nat.le_refl _)
                        have N25_30 := Own.apart2_new O25 P30 (Nat.le_refl _)
                        have N26_30 := Own.apart2_new O26 P30 (Nat.le_refl _)
                        have N27_30 := Own.apart2_new O27 P30 (Nat.le_refl _)
                        have N28_30 := O28.dis_new P30 (Nat.le_refl _)
                        have N29_30 := Own.apart2_new O29 P30 (Nat.le_refl _)
                        have O5 := O5.ext e185
                        have O6 := O6.ext e185
                        have O7 := O7.ext e185
                        have O8 := O8.ext e185
                        have O9 := O9.ext e185
                        have O10 := O10.ext e185
                        have O11 := O11.ext e185
                        have O12 := O12.ext e185
                        have O13 := O13.ext e185
                        have O14 := O14.ext e185
                        have O15 := O15.ext e185
                        have O16 := O16.ext e185
                        have O17 := O17.ext e185
                        have O18 := O18.ext e185
                        have O19 := O19.ext e185
                        have O20 := O20.ext e185
                        have O21 := O21.ext e185
                        have O22 := O22.ext e185
                        have O23 := O23.ext e185
                        have O24 := O24.ext e185
                        have O25 := O25.ext e185
                        have O26 := O26.ext e185
                        have O27 := O27.ext e185
                        have O28 := O28.ext e185
                        have O29 := O29.ext e185
                        have O30 := P30.mono hB.size
                        have hB := ethen hB e185
                        refine ⟨A186, r181.length, c187, rfl, ?_⟩
                        obtain ⟨hp190, H⟩ := H
                        obtain ⟨r188, hr189⟩ : ∃ r_, r_ = M.impl_WithMemory r169 r181 := ⟨_, rfl⟩
                        have H := H r188 hr189
                        refine (impl_WithMemory.con hp190 hr189 O27.row O27.le O28.row O28.le O29.row O29.le O30.row O30.le).mono ?_
                        rintro _ w191 ⟨A193, c194, A195, c196, F199, A197, c198, rfl, P31, P32, P33, N32_33, e192⟩
                        have N31_5 := P31.apart_old O5.lt
                        have N6_31 := Own.apart2_new O6 P31 (Nat.le_refl _)
                        have N7_31 := O7.dis_new P31 (Nat.le_refl _)
                        have N8_31 := Own.apart2_new O8 P31 (Nat.le_refl _)
                        have N9_31 := Own.apart2_new O9 P31 (Nat.le_refl _)
                        have N10_31 := Own.apart2_new O10 P31 (Nat.le_refl _)
                        have N11_31 := O11.dis_new P31 (Nat.le_refl _)
                        have N12_31 := Own.apart2_new O12 P31 (Nat.le_refl _)
                        have N31_13 := P31.apart_old O13.lt
                        have N14_31 := Own.apart2_new O14 P31 (Nat.le_refl _)
                        have N15_31 := O15.dis_new P31 (Nat.le_refl _)
                        have N16_31 := Own.apart2_new O16 P31 (Nat.le_refl _)
                        have N31_17 := P31.apart_old O17.lt
                        have N18_31 := Own.apart2_new O18 P31 (Nat.le_refl _)
                        have N19_31 := Own.apart2_new O19 P31 (Nat.le_refl _)
                        have N20_31 := O20.dis_new P31 (Nat.le_refl _)
                        have N21_31 := Own.apart2_new O21 P31 (Nat.le_refl _)
                        have N31_22 := P31.apart_old O22.lt
                        have N23_31 := Own.apart2_new O23 P31 (Nat.le_refl _)
                        have N24_31 := O24.dis_new P31 (Nat.le_refl _)
                        have N25_31 := Own.apart2_new O25 P31 (Nat.le_refl _)
                        have N26_31 := Own.apart2_new O26 P31 (Nat.le_refl _)
                        have N27_31 := Own.apart2_new O27 P31 (Nat.le_refl _)
                        have N28_31 := O28.dis_new P31 (Nat.le_refl _)
                        have N29_31 := Own.apart2_new O29 P31 (Nat.le_refl _)
                        have N30_31 := Own.apart2_new O30 P31 (Nat.le_refl _)
                        have N32_5 := P32.new_disbox O5 (Nat.le_refl _)
                        have N32_6 := P32.new_dis O6 (Nat.le_refl _)
                        have N7_32 := O7.dis_neww P32 (Nat.le_refl _)
                        have N32_8 := P32.new_dis O8 (Nat.le_refl _)
                        have N32_9 := P32.new_dis O9 (Nat.le_refl _)
                        have N32_10 := P32.new_dis O10 (Nat.le_refl _)
                        have N11_32 := O11.dis_neww P32 (Nat.le_refl _)
                        have N32_12 := P32.new_dis O12 (Nat.le_refl _)
                        have N32_13 := P32.new_disbox O13 (Nat.le_refl _)
                        have N32_14 := P32.new_dis O14 (Nat.le_refl _)
                        have N15_32 := O15.dis_neww P32 (Nat.le_refl _)
                        have N32_16 := P32.new_dis O16 (Nat.le_refl _)
                        have N32_17 := P32.new_disbox O17 (Nat.le_refl _)
                        have N32_18 := P32.new_dis O18 (Nat.le_refl _)
                        have N32_19 := P32.new_dis O19 (Nat.le_refl _)
                        have N20_32 := O20.dis_neww P32 (Nat.le_refl _)
                        have N32_21 := P32.new_dis O21 (Nat.le_refl _)
                        have N32_22 := P32.new_disbox O22 (Nat.le_refl _)
                        have N32_23 := P32.new_dis O23 (Nat.le_refl _)
                        have N24_32 := O24.dis_neww P32 (Nat.le_refl _)
                        have N32_25 := P32.new_dis O25 (Nat.le_refl _)
                        have N32_26 := P32.new_dis O26 (Nat.le_refl _)
                        have N32_27 := P32.new_dis O27 (Nat.le_refl _)
                        have N28_32 := O28.dis_neww P32 (Nat.le_refl _)
                        have N32_29 := P32.new_dis O29 (Nat.le_refl _)
                        have N32_30 := P32.new_dis O30 (Nat.le_refl _)
                        have N33_5 := P33.apart_old O5.lt
                        have N6_33 := Own.apart2_new O6 P33 (Nat.le_refl _)
                        have N7_33 := O7.dis_new P33 (Nat.le_refl _)
                        have N8_33 := Own.apart2_new O8 P33 (Nat.le_refl _)
                        have N9_33 := Own.apart2_new O9 P33 (Nat.le_refl _)
                        have N10_33 := Own.apart2_new O10 P33 (Nat.le_refl _)
                        have N11_33 := O11.dis_new P33 (Nat.le_refl _)
                        have N12_33 := Own.apart2_new O12 P33 (Nat.le_refl _)
                        have N33_13 := P33.apart_old O13.lt
                        have N14_33 := Own.apart2_new O14 P33 (Nat.le_refl _)
                        have N15_33 := O15.dis_new P33 (Nat.le_refl _)
                        have N16_33 := Own.apart2_new O16 P33 (Nat.le_refl _)
                        have N33_17 := P33.apart_old O17.lt
                        have N18_33 := Own.apart2_new O18 P33 (Nat.le_refl _)
                        have N19_33 := Own.apart2_new O19 P33 (Nat.le_refl _)
                        have N20_33 := O20.dis_new P33 (Nat.le_refl _)
                        have N21_33 := Own.apart2_new O21 P33 (Nat.le_refl _)
                        have N33_22 := P33.apart_old O22.lt
                        have N23_33 := Own.apart2_new O23 P33 (Nat.le_refl _)
                        have N24_33 := O24.dis_new P33 (Nat.le_refl _)
                        have N25_33 := Own.apart2_new O25 P33 (Nat.le_refl _)
                        have N26_33 := Own.apart2_new O26 P33 (Nat.le_refl _)
                        have N27_33 := Own.apart2_new O27 P33 (Nat.le_refl _)
                        have N28_33 := O28.dis_new P33 (Nat.le_refl _)
                        have N29_33 := Own.apart2_new O29 P33 (Nat.le_refl _)
                        have N30_33 := Own.apart2_new O30 P33 (Nat.le_refl _)
                        have O5 := O5.ext e192
                        have O6 := O6.ext e192
                        have O7 := O7.ext e192
                        have O8 := O8.ext e192
                        have O9 := O9.ext e192
                        have O10 := O10.ext e192
                        have O11 := O11.ext e192
                        have O12 := O12.ext e192
                        have O13 := O13.ext e192
                        have O14 := O14.ext e192
                        have O15 := O15.ext e192
                        have O16 := O16.ext e192
                        have O17 := O17.ext e192
                        have O18 := O18.ext e192
                        have O19 := O19.ext e192
                        have O20 := O20.ext e192
                        have O21 := O21.ext e192
                        have O22 := O22.ext e192
                        have O23 := O23.ext e192
                        have O24 := O24.ext e192
                        have O25 := O25.ext e192
                        have O26 := O26.ext e192
                        have O27 := O27.ext e192
                        have O28 := O28.ext e192
                        have O29 := O29.ext e192
                        have O30 := O30.ext e192
                        have O31 := P31.mono hB.size
                        have O32 := P32.mono hB.size
                        have O33 := P33.mono hB.size
                        have hB := ethen hB e192
                        refine ⟨(.agg #[(.slice A193 r188.1.Code.length c194), (.slice A195 r188.1.Warps.length c196), (.slice A197 r188.1.Memory.length c198), (.int .i64 r188.1.Waiting), (.int .i64 r188.1.Phase)]), ?_⟩
                        refine ⟨A193, r188.1.Code.length, c194, trivial, ?_⟩
                        refine ⟨A195, r188.1.Warps.length, c196, trivial, ?_⟩
                        refine ⟨A197, r188.1.Memory.length, c198, trivial, ?_⟩
                        refine ⟨r188.1.Waiting, trivial, ?_⟩
                        refine ⟨r188.1.Phase, trivial, ?_⟩
                        refine ⟨rfl, ?_⟩
                        refine ⟨(.bool r188.2), ?_⟩
                        refine ⟨r188.2, rfl, ?_⟩
                        refine ⟨rfl, ?_⟩
                        refine newBlk (fun g34_ w200 L34 P34 e201 => ?_)
                        have N5_34 := O5.ne L34
                        have N6_34 := O6.apart_new L34
                        have N7_34 := O7.dis_newbox L34
                        have N8_34 := O8.apart_new L34
                        have N9_34 := O9.apart_new L34
                        have N10_34 := O10.apart_new L34
                        have N11_34 := O11.dis_newbox L34
                        have N12_34 := O12.apart_new L34
                        have N13_34 := O13.ne L34
                        have N14_34 := O14.apart_new L34
                        have N15_34 := O15.dis_newbox L34
                        have N16_34 := O16.apart_new L34
                        have N17_34 := O17.ne L34
                        have N18_34 := O18.apart_new L34
                        have N19_34 := O19.apart_new L34
                        have N20_34 := O20.dis_newbox L34
                        have N21_34 := O21.apart_new L34
                        have N22_34 := O22.ne L34
                        have N23_34 := O23.apart_new L34
                        have N24_34 := O24.dis_newbox L34
                        have N25_34 := O25.apart_new L34
                        have N26_34 := O26.apart_new L34
                        have N27_34 := O27.apart_new L34
                        have N28_34 := O28.dis_newbox L34
                        have N29_34 := O29.apart_new L34
                        have N30_34 := O30.apart_new L34
                        have N31_34 := O31.apart_new L34
                        have N32_34 := O32.dis_newbox L34
                        have N33_34 := O33.apart_new L34
                        have O5 := O5.ext e201
                        have O6 := O6.ext e201
                        have O7 := O7.ext e201
                        have O8 := O8.ext e201
                        have O9 := O9.ext e201
                        have O10 := O10.ext e201
                        have O11 := O11.ext e201
                        have O12 := O12.ext e201
                        have O13 := O13.ext e201
                        have O14 := O14.ext e201
                        have O15 := O15.ext e201
                        have O16 := O16.ext e201
                        have O17 := O17.ext e201
                        have O18 := O18.ext e201
                        have O19 := O19.ext e201
                        have O20 := O20.ext e201
                        have O21 := O21.ext e201
                        have O22 := O22.ext e201
                        have O23 := O23.ext e201
                        have O24 := O24.ext e201
                        have O25 := O25.ext e201
                        have O26 := O26.ext e201
                        have O27 := O27.ext e201
                        have O28 := O28.ext e201
                        have O29 := O29.ext e201
                        have O30 := O30.ext e201
                        have O31 := O31.ext e201
                        have O32 := O32.ext e201
                        have O33 := O33.ext e201
                        have O34 := P34
                        have L34 := Nat.le_trans hB.size L34
                        have hB := ethen hB e201
                        refine stBlk O34 (o := 0) (cs' := #[(.slice A193 r188.1.Code.length c194), (.slice A195 r188.1.Warps.length c196), (.slice A197 r188.1.Memory.length c198), (.int .i64 r188.1.Waiting), (.int .i64 r188.1.Phase)]) rfl rfl (Nat.le_of_ble_eq_true rfl) rfl (fun w202 P34 e203 => ?_)
                        have O5_ := O5.chg e203 N5_34
                        have O6_ := O6.chg e203 N6_34
                        have O7_ := O7.chg e203 N7_34
                        have O8_ := O8.chg e203 N8_34
                        have O9_ := O9.chg e203 N9_34
                        have O10_ := O10.chg e203 N10_34
                        have O11_ := O11.chg e203 N11_34
                        have O12_ := O12.chg e203 N12_34
                        have O13_ := O13.chg e203 N13_34
                        have O14_ := O14.chg e203 N14_34
                        have O15_ := O15.chg e203 N15_34
                        have O16_ := O16.chg e203 N16_34
                        have O17_ := O17.chg e203 N17_34
                        have O18_ := O18.chg e203 N18_34
                        have O19_ := O19.chg e203 N19_34
                        have O20_ := O20.chg e203 N20_34
                        have O21_ := O21.chg e203 N21_34
                        have O22_ := O22.chg e203 N22_34
                        have O23_ := O23.chg e203 N23_34
                        have O24_ := O24.chg e203 N24_34
                        have O25_ := O25.chg e203 N25_34
                        have O26_ := O26.chg e203 N26_34
                        have O27_ := O27.chg e203 N27_34
                        have O28_ := O28.chg e203 N28_34
                        have O29_ := O29.chg e203 N29_34
                        have O30_ := O30.chg e203 N30_34
                        have O31_ := O31.chg e203 N31_34
                        have O32_ := O32.chg e203 N32_34
                        have O33_ := O33.chg e203 N33_34
                        have O5 := O5_
                        have O6 := O6_
                        have O7 := O7_
                        have O8 := O8_
                        have O9 := O9_
                        have O10 := O10_
                        have O11 := O11_
                        have O12 := O12_
                        have O13 := O13_
                        have O14 := O14_
                        have O15 := O15_
                        have O16 := O16_
                        have O17 := O17_
                        have O18 := O18_
                        have O19 := O19_
                        have O20 := O20_
                        have O21 := O21_
                        have O22 := O22_
                        have O23 := O23_
                        have O24 := O24_
                        have O25 := O25_
                        have O26 := O26_
                        have O27 := O27_
                        have O28 := O28_
                        have O29 := O29_
                        have O30 := O30_
                        have O31 := O31_
                        have O32 := O32_
                        have O33 := O33_
                        have hB := echg hB e203 L34
                        have O34 := P34
                        refine ⟨_, _, _, (O34.at 0 rfl rfl), ?_⟩
                        refine ⟨_, _, _, (O34.at 1 rfl rfl), ?_⟩
                        refine ⟨_, _, _, (O34.at 2 rfl rfl), ?_⟩
                        refine ⟨_, (O34.at 3 rfl rfl), ?_⟩
                        refine ⟨_, (O34.at 4 rfl rfl), ?_⟩
                        refine ⟨_, _, _, (O13.at 0 rfl rfl), ?_⟩
                        refine ⟨_, _, _, (O13.at 1 rfl rfl), ?_⟩
                        refine ⟨_, _, _, (O13.at 2 rfl rfl), ?_⟩
                        refine ⟨_, (O13.at 3 rfl rfl), ?_⟩
                        refine ⟨_, (O13.at 4 rfl rfl), ?_⟩
                        obtain ⟨hp206, H⟩ := H
                        obtain ⟨r204, hr205⟩ : ∃ r_, r_ = M.laws_eqBlock r188.1 r47.1 := ⟨_, rfl⟩
                        have H := H r204 hr205
                        refine (laws_eqBlock.con hp206 hr205 O31.row O31.le O32.row O32.le O33.row O33.le O10.row O10.le O11.row O11.le O12.row O12.le).mono ?_
                        rintro _ w207 ⟨rfl, e208⟩
                        have O5 := O5.ext e208
                        have O6 := O6.ext e208
                        have O7 := O7.ext e208
                        have O8 := O8.ext e208
                        have O9 := O9.ext e208
                        have O10 := O10.ext e208
                        have O11 := O11.ext e208
                        have O12 := O12.ext e208
                        have O13 := O13.ext e208
                        have O14 := O14.ext e208
                        have O15 := O15.ext e208
                        have O16 := O16.ext e208
                        have O17 := O17.ext e208
                        have O18 := O18.ext e208
                        have O19 := O19.ext e208
                        have O20 := O20.ext e208
                        have O21 := O21.ext e208
                        have O22 := O22.ext e208
                        have O23 := O23.ext e208
                        have O24 := O24.ext e208
                        have O25 := O25.ext e208
                        have O26 := O26.ext e208
                        have O27 := O27.ext e208
                        have O28 := O28.ext e208
                        have O29 := O29.ext e208
                        have O30 := O30.ext e208
                        have O31 := O31.ext e208
                        have O32 := O32.ext e208
                        have O33 := O33.ext e208
                        have O34 := O34.ext e208
                        have hB := ethen hB e208
                        refine ⟨r204, rfl, ?_⟩
                        refine bcase_mk (fun hc217 => ?_) (fun hc217 => ?_)
                        · have H := (bcase_iff.1 H).1 hc217
                          obtain rfl := hr.trans H.symm
                          exact ⟨rfl, hB⟩
                        · have H := (bcase_iff.1 H).2 hc217
                          refine bcase_mk (fun hc216 => ?_) (fun hc216 => ?_)
                          · have H := (bcase_iff.1 H).1 hc216
                            obtain rfl := hr.trans H.symm
                            exact ⟨rfl, hB⟩
                          · have H := (bcase_iff.1 H).2 hc216
                            refine ⟨_, _, _, (O22.at 0 rfl rfl), ?_⟩
                            refine ⟨_, _, _, (O22.at 1 rfl rfl), ?_⟩
                            refine ⟨_, _, _, (O22.at 2 rfl rfl), ?_⟩
                            refine ⟨_, (O22.at 3 rfl rfl), ?_⟩
                            refine ⟨_, (O22.at 4 rfl rfl), ?_⟩
                            obtain ⟨hp211, H⟩ := H
                            obtain ⟨r209, hr210⟩ : ∃ r_, r_ = M.laws_heldBlock (⟨r156.2.1, r156.2.2.1, r156.2.2.2, r86.1.Waiting, r86.1.Phase⟩ : D.Block) 1 := ⟨_, rfl⟩
                            have H := H r209 hr210
                            refine (cllArgs (by first | (simp only [List.length_set, hl161, hl162, hl163]; done) | (simp; done)) (laws_heldBlock.con hp211 hr210 O19.row O19.le O20.row O20.le O21.row O21.le)).mono ?_
                            rintro _ w212 ⟨rfl, e213⟩
                            have O5 := O5.ext e213
                            have O6 := O6.ext e213
                            have O7 := O7.ext e213
                            have O8 := O8.ext e213
                            have O9 := O9.ext e213
                            have O10 := O10.ext e213
                            have O11 := O11.ext e213
                            have O12 := O12.ext e213
                            have O13 := O13.ext e213
                            have O14 := O14.ext e213
                            have O15 := O15.ext e213
                            have O16 := O16.ext e213
                            have O17 := O17.ext e213
                            have O18 := O18.ext e213
                            have O19 := O19.ext e213
                            have O20 := O20.ext e213
                            have O21 := O21.ext e213
                            have O22 := O22.ext e213
                            have O23 := O23.ext e213
                            have O24 := O24.ext e213
                            have O25 := O25.ext e213
                            have O26 := O26.ext e213
                            have O27 := O27.ext e213
                            have O28 := O28.ext e213
                            have O29 := O29.ext e213
                            have O30 := O30.ext e213
                            have O31 := O31.ext e213
                            have O32 := O32.ext e213
                            have O33 := O33.ext e213
                            have O34 := O34.ext e213
                            have hB := ethen hB e213
                            refine ⟨r209, rfl, ?_⟩
                            refine bcase_mk (fun hc215 => ?_) (fun hc215 => ?_)
                            · have H := (bcase_iff.1 H).1 hc215
                              obtain rfl := hr.trans H.symm
                              exact ⟨rfl, hB⟩
                            · have H := (bcase_iff.1 H).2 hc215
                              refine bcase_mk (fun hc214 => ?_) (fun hc214 => ?_)
                              · have H := (bcase_iff.1 H).1 hc214
                                obtain rfl := hr.trans H.symm
                                exact ⟨rfl, hB⟩
                              · have H := (bcase_iff.1 H).2 hc214
                                obtain rfl := hr.trans H.symm
                                exact ⟨rfl, hB⟩

end Go.V
