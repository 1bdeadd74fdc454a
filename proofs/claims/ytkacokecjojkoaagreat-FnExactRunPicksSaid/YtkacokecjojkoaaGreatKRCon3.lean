import Derived.Test.YtkacokecjojkoaaGreatKRCon2
namespace Go.V
open Go.Proofs
open IntKind (wrap)
set_option linter.unusedVariables false
set_option linter.unusedSimpArgs false
set_option maxRecDepth 100000
def impl_JoinOf.vc (A0 : OA) (n0 c0 : Nat) (x1 : Int) (w : World) (K : VK) : Prop :=
  Cl 228 #[(sv A0 n0 c0), (iv x1)] w fun v21 w22 => (∃ (b23 : Bool), v21 = (.bool b23) ∧ bcase (!b23) (K (iv (-1)) w22) (Cl 229 #[(sv A0 n0 c0), (iv x1)] w22 fun v24 w25 => (∃ (A26 : OA) (n27 c28 : Nat), v24 = (sv A26 n27 c28) ∧ LoopT (σ := Int × Unit) (fun z29 w30 next31 => bcase (decide (z29.1 < ((n27 : Nat) : Int))) ((idx z29.1 n27 A26 fun a32 => ldI w30 ((a32.add ((z29.1.toNat) * 1)).add 0) fun n33 => Cl 230 #[(sv A0 n0 c0), (iv n33)] w30 fun v34 w35 => (∃ (b36 : Bool), v34 = (.bool b36) ∧ bcase (!b36) (K (iv ((n0 : Nat) : Int)) w35) (next31 ((wrap .i64 (z29.1 + 1)), ()) w35)))) (Cl 231 #[(sv A0 n0 c0), (iv x1)] w30 fun v37 w38 => (∃ (n39 : Int), v37 = (iv n39) ∧ K (iv n39) w38))) (0, ()) w25)))

def impl_JoinOf.ann : Ann := (.seq .l (.seq (.seq .l (.two (.seq .l .l) .l)) (.seq (.seq .l (.one (.loop [(15, .int .i64)] (.seq .l (.seq (.two .l .l) (.seq (.one (.seq .l (.seq .l (.two (.seq .l .l) .l)))) .l)))))) (.seq .l .l))))

theorem impl_JoinOf.con {xs0 : List D.Ins} {A0 : OA} {c0 : Nat} {x1 r : Int} {w : World} (hp : M.impl_JoinOf_pre xs0 x1) (hr : r = M.impl_JoinOf xs0 x1) (R0 : Row el89 w A0 xs0) (hc0 : xs0.length ≤ c0) :
    Cl 200 #[(sv A0 xs0.length c0), (iv x1)] w (fun v_ w_ => v_ = (iv r) ∧ Ext w w_) := by
 have H := wp.impl_JoinOf.math xs0 x1 hp
 have hB := Ext.refl w
 refine begK mixed Tryz.f200 ann (vc A0 xs0.length c0 x1) ?_
 unfold vc
 unfold wp.impl_JoinOf at H
 obtain ⟨hp23, H⟩ := H
 obtain ⟨r21, hr22, H⟩ := callO H
 refine (impl_isBranch.con hp23 hr22 (R0.ext hB) hc0).mono ?_
 rintro _ w24 ⟨rfl, e25⟩
 have hB := ethen hB e25
 refine ⟨r21, rfl, ?_⟩
 refine brc H (fun h H => ?_) fun h H => ?_
 ·cases hr.trans H.symm
  exact ⟨rfl, hB⟩
 obtain ⟨hp28, H⟩ := H
 obtain ⟨r26, hr27, H⟩ := callO H
 refine (impl_next.con hp28 hr27 (R0.ext hB) hc0).mono ?_
 rintro _ w29 ⟨A31, c32, rfl, P2, e30⟩
 have O2 := P2.mono hB.size
 have hB := ethen hB e30
 refine ⟨A31, r26.length, c32, rfl, ?_⟩
 obtain ⟨J35, ⟨m61, hJ60⟩, hS36⟩ := H
 refine ⟨fun m_ z_ w_ => ∃ (i33 : Int), z_ = (i33, ()) ∧ J35 m_ (i33, ()) ∧ Ext w w_ ∧ Own el3 w_ w.heap.size A31 c32 r26, ⟨m61, 0, rfl, hJ60, hB, O2⟩, ?_⟩
 rintro m34 _ w38 ⟨i33, rfl, hJ62, hB, O2⟩
 have H := hS36 m34 _ hJ62
 clear hS36 hJ62
 try dsimp only at H ⊢
 refine brc H (fun h H => ?_) fun h H => ?_
 ·obtain ⟨⟨h0_42, h1_43⟩, H⟩ := H
  obtain ⟨a40, ha41, hat39⟩ := Row.at O2.row h0_42 h1_43
  refine ⟨h0_42, h1_43, a40, ha41, _, (hat39 0 _ rfl), ?_⟩
  obtain ⟨hp46, H⟩ := H
  obtain ⟨r44, hr45, H⟩ := callO H
  refine (impl_reachesExit.con hp46 hr45 (R0.ext hB) hc0).mono ?_
  rintro _ w47 ⟨rfl, e48⟩
  have O2 := O2.ext e48
  have hB := ethen hB e48
  refine ⟨r44, rfl, ?_⟩
  refine brc H (fun h H => ?_) fun h H => ?_
  ·cases hr.trans H.symm
   exact ⟨rfl, hB⟩
  obtain ⟨m49, hm50, hJ51⟩ := H
  exact ⟨m49, hm50, _, rfl, hJ51, hB, O2⟩
 obtain ⟨hp55, H⟩ := H
 obtain ⟨r53, hr54, H⟩ := callO H
 refine (impl_FirstAfter.con hp55 hr54 (R0.ext hB) hc0).mono ?_
 rintro _ w56 ⟨rfl, e57⟩
 have hB := ethen hB e57
 refine ⟨r53, rfl, ?_⟩
 cases hr.trans H.symm
 exact ⟨rfl, hB⟩
def spec_DropFrames.vc (A0 : OA) (n0 c0 : Nat) (x1_0 : Int) (A1_1 : OA) (n1_1 c1_1 : Nat) (A1_2 : OA) (n1_2 c1_2 : Nat) (w : World) (K : VK) : Prop :=
  newK w (.cells #[(iv x1_0), (sv A1_1 n1_1 c1_1), (sv A1_2 n1_2 c1_2)] 31) fun g21 w22 => newK w22 (.cells #[(iv 0), (sv none 0 0), (sv none 0 0)] 31) fun g23 w24 => ldI w24 ((bx g21).add 0) fun n25 => ldS w24 ((bx g21).add 1) fun A26 n27 c28 => ldS w24 ((bx g21).add 2) fun A29 n30 c31 => Cl 68 #[(.agg #[(iv n25), (sv A26 n27 c28), (sv A29 n30 c31)])] w24 fun v32 w33 => (∃ (n34 : Int), True ∧ ∃ (A35 : OA) (n36 c37 : Nat), True ∧ ∃ (A38 : OA) (n39 c40 : Nat), True ∧ v32 = (.agg #[(iv n34), (sv A35 n36 c37), (sv A38 n39 c40)]) ∧ newK w33 (.cells #[(iv 0), (sv none 0 0), (sv none 0 0)] 31) fun g41 w42 => stCells (bx g41) [(iv n34), (sv A35 n36 c37), (sv A38 n39 c40)] 0 w42 fun w43 => ldS w43 (((bx g41).add 1).add 0) fun A44 n45 c46 => LoopT (σ := Int × Unit) (fun z47 w48 next49 => bcase (decide (z47.1 ≥ 0)) (ldS w48 (((bx g41).add 1).add 0) fun A50 n51 c52 => (idx z47.1 n51 A50 fun a53 => ldI w48 ((a53.add ((z47.1.toNat) * 3)).add 0) fun n54 => ldI w48 ((a53.add ((z47.1.toNat) * 3)).add 1) fun n55 => ldI w48 ((a53.add ((z47.1.toNat) * 3)).add 2) fun n56 => newK w48 (.cells #[(iv 0), (iv 0), (iv 0)] 130) fun g57 w58 => stCells (bx g57) [(iv n54), (iv n55), (iv n56)] 0 w58 fun w59 => ldI w59 (((bx g57).add 0).add 0) fun n60 => ldI w59 (((bx g57).add 1).add 0) fun n61 => bcase (n60 != n61) (ldI w59 (((bx g57).add 0).add 0) fun n62 => bcase (n62 != ((n0 : Nat) : Int)) (ldI w59 ((bx g41).add 0) fun n63 => ldS w59 ((bx g41).add 1) fun A64 n65 c66 => ldS w59 ((bx g41).add 2) fun A67 n68 c69 => stCells (bx g23) [(iv n63), (sv A64 n65 c66), (sv A67 n68 c69)] 0 w59 fun w70 => ldI w70 ((bx g23).add 0) fun n71 => ldS w70 ((bx g23).add 1) fun A72 n73 c74 => ldS w70 ((bx g23).add 2) fun A75 n76 c77 => K (.agg #[(iv n71), (sv A72 n73 c74), (sv A75 n76 c77)]) w70) (ldS w59 (((bx g41).add 1).add 0) fun A78 n79 c80 => ((0 : Int) ≤ z47.1 ∧ z47.1 ≤ ((c80 : Nat) : Int) ∧ stCells ((bx g41).add 1) [(sv A78 (z47.1.toNat) c80)] 0 w59 fun w81 => next49 ((wrap .i64 (z47.1 - 1)), ()) w81))) (ldS w59 (((bx g41).add 1).add 0) fun A82 n83 c84 => ((0 : Int) ≤ z47.1 ∧ z47.1 ≤ ((c84 : Nat) : Int) ∧ stCells ((bx g41).add 1) [(sv A82 (z47.1.toNat) c84)] 0 w59 fun w85 => next49 ((wrap .i64 (z47.1 - 1)), ()) w85)))) (ldI w48 ((bx g41).add 0) fun n86 => ldS w48 ((bx g41).add 1) fun A87 n88 c89 => ldS w48 ((bx g41).add 2) fun A90 n91 c92 => stCells (bx g23) [(iv n86), (sv A87 n88 c89), (sv A90 n91 c92)] 0 w48 fun w93 => ldI w93 ((bx g23).add 0) fun n94 => ldS w93 ((bx g23).add 1) fun A95 n96 c97 => ldS w93 ((bx g23).add 2) fun A98 n99 c100 => K (.agg #[(iv n94), (sv A95 n96 c97), (sv A98 n99 c100)]) w93)) ((wrap .i64 (((n45 : Nat) : Int) - 1)), ()) w43)

def spec_DropFrames.ann : Ann := (.seq .l (.seq .l (.seq (.seq .l (.one (.loop [(6, .int .i64)] (.seq (.seq .l (.two .l .l)) (.seq (.one (.seq .l (.seq (.seq .l (.two .l .l)) .l))) .l))))) (.seq .l .l))))

theorem spec_DropFrames.con {xs0 : List D.Ins} {A0 A1_1 A1_2 : OA} {c0 c1_1 c1_2 : Nat} {s1 r : D.Warp} {w : World} (hp : M.spec_DropFrames_pre xs0 s1) (hr : r = M.spec_DropFrames xs0 s1) (R0 : Row el89 w A0 xs0) (hc0 : xs0.length ≤ c0) (R1_1 : Row el130 w A1_1 s1.Frames) (hc1_1 : s1.Frames.length ≤ c1_1) (R1_2 : Row el3 w A1_2 s1.Regs) (hc1_2 : s1.Regs.length ≤ c1_2) :
    Cl 151 #[(sv A0 xs0.length c0), (.agg (wC A1_1 c1_1 A1_2 c1_2 s1))] w (fun v_ w_ => ∃ (A0_ : OA) (c0_ : Nat) (A1_ : OA) (c1_ : Nat), v_ = (.agg (wC A0_ c0_ A1_ c1_ r)) ∧ Own el130 w_ w.heap.size A0_ c0_ r.Frames ∧ Own el3 w_ w.heap.size A1_ c1_ r.Regs ∧ Ext w w_) := by
 have H := wp.spec_DropFrames.math xs0 s1 hp
 refine begK mixed Tryz.f151 ann (vc A0 xs0.length c0 s1.Number A1_1 s1.Frames.length c1_1 A1_2 s1.Regs.length c1_2) ?_
 unfold vc
 unfold wp.spec_DropFrames at H
 refine newBlk (fun g4_ w21 L4 O4 e22 => ?_)
 have hB := ethen (Ext.refl w) e22
 refine newBlk (fun g5_ w23 L5 P5 e24 => ?_)
 have O4 := O4.ext e24
 have O5 := P5
 have L5 := Nat.le_trans hB.size L5
 have hB := ethen hB e24
 refine ⟨_, (O4.a 0), _, _, _, (O4.a 1), _, _, _, (O4.a 2), ?_⟩
 obtain ⟨hp27, H⟩ := H
 obtain ⟨r25, hr26, H⟩ := callO H
 refine (spec_l12Copy.con hp27 hr26 (R1_1.ext hB) hc1_1 (R1_2.ext hB) hc1_2).mono ?_
 rintro _ w28 ⟨A30, c31, A32, c33, rfl, P6, P7, e29⟩
 have N7_5 := P7.apart_old O5.lt
 have O5 := O5.ext e29
 have O6 := P6.mono hB.size
 have O7 := P7.mono hB.size
 have hB := ethen hB e29
 refine ⟨r25.Number, trivial, A30, r25.Frames.length, c31, trivial, A32, r25.Regs.length, c33, trivial, rfl, ?_⟩
 refine newBlk (fun g8_ w34 L8 P8 e35 => ?_)
 have N5_8 := O5.ne L8
 have N6_8 := O6.apart_new L8
 have N7_8 := O7.apart_new L8
 have O7 := O7.ext e35
 have O8 := P8
 have L8 := Nat.le_trans hB.size L8
 have hB := ethen hB e35
 refine stB O8 0 (wC A30 c31 A32 c33 r25) (fun w36 P8 e37 => ?_)
 have O5 := (O5.ext e35).chg e37 N5_8
 have O6 := (O6.ext e35).chg e37 N6_8
 have O7_ := O7.chg e37 N7_8
 have O7 := O7_
 have hB := echg hB e37 L8
 have O8 := P8
 refine ⟨_, _, _, (O8.a 1), ?_⟩
 obtain ⟨J87, ⟨m123, hJ122⟩, hS88⟩ := H
 refine ⟨fun m_ z_ w_ => ∃ (i81 i82 : Int) (xs83 : List D.Frame) (A84 : OA) (c85 : Nat), z_ = (i81, ()) ∧ J87 m_ (i81, i82, xs83, ()) ∧ Ext w w_ ∧ Blk w_ g8_ 31 #[(iv i82), (sv A84 xs83.length c85), (sv A32 r25.Regs.length c33)] ∧ Own el130 w_ w.heap.size A84 c85 xs83 ∧ Blk w_ g5_ 31 #[(iv 0), (sv none 0 0), (sv none 0 0)] ∧ Own el3 w_ w.heap.size A32 c33 r25.Regs, ⟨m123, (wrap .i64 ((r25.Frames.length : Int) - 1)), r25.Number, r25.Frames, A30, c31, rfl, hJ122, hB, O8, O6, O5, O7⟩, ?_⟩
 rintro m86 _ w90 ⟨i81, i82, xs83, A84, c85, rfl, hJ124, hB, O8, O13, O5, O7⟩
 have H := hS88 m86 _ hJ124
 clear hS88 hJ124
 try dsimp only at H ⊢
 refine brc H (fun h H => ?_) fun h H => ?_
 ·refine ⟨_, _, _, (O8.a 1), ?_⟩
  obtain ⟨⟨h0_94, h1_95⟩, H⟩ := H
  obtain ⟨a92, ha93, hat91⟩ := Row.at O13.row h0_94 h1_95
  refine ⟨h0_94, h1_95, a92, ha93, _, (hat91 0 _ rfl), _, (hat91 1 _ rfl), _, (hat91 2 _ rfl), ?_⟩
  refine newBlk (fun g14_ w96 L14 P14 e97 => ?_)
  have N5_14 := O5.ne L14
  have N7_14 := O7.apart_new L14
  have N8_14 := O8.ne L14
  have N13_14 := O13.apart_new L14
  have O5 := O5.ext e97
  have O7 := O7.ext e97
  have O13 := O13.ext e97
  have O14 := P14
  have L14 := Nat.le_trans hB.size L14
  have hB := ethen hB e97
  refine stBlk O14 (o := 0) (cs' := #[(iv ((rd xs83 i81).Pc)), (iv ((rd xs83 i81).Stop)), (iv ((rd xs83 i81).Mask))]) rfl rfl (Nat.le_of_ble_eq_true rfl) rfl (fun w98 O14 e99 => ?_)
  have O5_ := O5.chg e99 N5_14
  have O7_ := O7.chg e99 N7_14
  have O8 := (O8.ext e97).chg e99 N8_14
  have O13_ := O13.chg e99 N13_14
  have O5 := O5_
  have O7 := O7_
  have O13 := O13_
  have hB := echg hB e99 L14
  refine ⟨_, (O14.a 0), _, (O14.a 1), ?_⟩
  refine brc H (fun h H => ?_) fun h H => ?_
  ·refine ⟨_, (O14.a 0), ?_⟩
   refine brc H (fun h H => ?_) fun h H => ?_
   ·refine ⟨_, (O8.a 0), _, _, _, (O8.a 1), _, _, _, (O8.a 2), ?_⟩
    refine stB O5 0 #[(iv i82), (sv A84 xs83.length c85), (sv A32 r25.Regs.length c33)] (fun w100 P5 e101 => ?_)
    have O7 := O7.chg e101 N7_5
    have O13 := O13.chg e101 (O13.apart_type O5 (by decide))
    have hB := echg hB e101 L5
    have O5 := P5
    refine ⟨_, (O5.a 0), _, _, _, (O5.a 1), _, _, _, (O5.a 2), ?_⟩
    cases hr.trans H.symm
    exact ⟨A84, c85, A32, c33, rfl, O13, O7, hB⟩
   refine ⟨_, _, _, (O8.a 1), ?_⟩
   obtain ⟨⟨hh102, hh103⟩, H⟩ := H
   refine and_assoc.1 ⟨⟨hh102, Int.le_trans hh103 (Int.ofNat_le.2 O13.le)⟩, ?_⟩
   rw [show (i81.toNat) = ((List.take (i81.toNat) xs83)).length from by first | rfl | (simp; done) | (simp; omega)]
   refine stB O8 1 #[(iv i82), (sv A84 (((List.take (i81.toNat) xs83)).length) c85), (sv A32 r25.Regs.length c33)] (fun w104 P8 e105 => ?_)
   have O5 := O5.chg e105 N5_8
   have O7 := O7.chg e105 N7_8
   have O15 := ((O13.take (i81.toNat))).chg e105 (O13.apart_type O8 (by decide))
   have hB := echg hB e105 L8
   have O8 := P8
   obtain ⟨m106, hm107, hJ108⟩ := H
   exact ⟨m106, hm107, _, i82, _, A84, c85, rfl, hJ108, hB, O8, O15, O5, O7⟩
  refine ⟨_, _, _, (O8.a 1), ?_⟩
  obtain ⟨⟨hh110, hh111⟩, H⟩ := H
  refine and_assoc.1 ⟨⟨hh110, Int.le_trans hh111 (Int.ofNat_le.2 O13.le)⟩, ?_⟩
  rw [show (i81.toNat) = ((List.take (i81.toNat) xs83)).length from by first | rfl | (simp; done) | (simp; omega)]
  refine stB O8 1 #[(iv i82), (sv A84 (((List.take (i81.toNat) xs83)).length) c85), (sv A32 r25.Regs.length c33)] (fun w112 P8 e113 => ?_)
  have O5 := O5.chg e113 N5_8
  have O7 := O7.chg e113 N7_8
  have O16 := ((O13.take (i81.toNat))).chg e113 (O13.apart_type O8 (by decide))
  have hB := echg hB e113 L8
  have O8 := P8
  obtain ⟨m114, hm115, hJ116⟩ := H
  exact ⟨m114, hm115, _, i82, _, A84, c85, rfl, hJ116, hB, O8, O16, O5, O7⟩
 refine ⟨_, (O8.a 0), _, _, _, (O8.a 1), _, _, _, (O8.a 2), ?_⟩
 refine stB O5 0 #[(iv i82), (sv A84 xs83.length c85), (sv A32 r25.Regs.length c33)] (fun w118 P5 e119 => ?_)
 have O7 := O7.chg e119 N7_5
 have O13 := O13.chg e119 (O13.apart_type O5 (by decide))
 have hB := echg hB e119 L5
 have O5 := P5
 refine ⟨_, (O5.a 0), _, _, _, (O5.a 1), _, _, _, (O5.a 2), ?_⟩
 cases hr.trans H.symm
 exact ⟨A84, c85, A32, c33, rfl, O13, O7, hB⟩
def spec_l13Apply.vc (A0 : OA) (n0 c0 : Nat) (x1_0 : Int) (A1_1 : OA) (n1_1 c1_1 : Nat) (A1_2 : OA) (n1_2 c1_2 : Nat) (w : World) (K : VK) : Prop :=
  newK w (.cells #[(iv x1_0), (sv A1_1 n1_1 c1_1), (sv A1_2 n1_2 c1_2)] 31) fun g21 w22 => Run Tryz.prog (Instr.buildSlice 24 0 #[]) w22 fun v23 w24 => ∃ (A25 : OA) (n26 c27 : Nat), v23 = .slice A25 n26 c27 ∧ ldS w24 (((bx g21).add 2).add 0) fun A28 n29 c30 => Run Tryz.prog (Builtin.append_ #[24, 24] 24 #[(sv A25 n26 c27), (sv A28 n29 c30)]) w24 fun v31 w32 => ∃ (A33 : OA) (n34 c35 : Nat), v31 = .slice A33 n34 c35 ∧ ldS w32 (((bx g21).add 1).add 0) fun A36 n37 c38 => ldS w32 (((bx g21).add 1).add 0) fun A39 n40 c41 => (idx (wrap .i64 (((n40 : Nat) : Int) - 1)) n37 A36 fun a42 => ldI w32 ((a42.add (((wrap .i64 (((n40 : Nat) : Int) - 1)).toNat) * 3)).add 0) fun n43 => ldI w32 ((a42.add (((wrap .i64 (((n40 : Nat) : Int) - 1)).toNat) * 3)).add 1) fun n44 => ldI w32 ((a42.add (((wrap .i64 (((n40 : Nat) : Int) - 1)).toNat) * 3)).add 2) fun n45 => newK w32 (.cells #[(iv 0), (iv 0), (iv 0)] 130) fun g46 w47 => stCells (bx g46) [(iv n43), (iv n44), (iv n45)] 0 w47 fun w48 => LoopT (σ := Int × Unit) (fun z49 w50 next51 => bcase (decide (z49.1 < 8)) (ldI w50 (((bx g46).add 2).add 0) fun n52 => Cl 165 #[(iv n52), (iv z49.1)] w50 fun v53 w54 => (∃ (b55 : Bool), v53 = (.bool b55) ∧ bcase b55 ((∃ M56 : Nat → Prop, ldIM M56 w54 ((bx g46).add 0) 0 fun n57 => (idx n57 n0 A0 fun a58 => ldIM M56 w54 (a58.add ((n57.toNat) * 4)) 0 fun n59 => ldIM M56 w54 (a58.add ((n57.toNat) * 4)) 1 fun n60 => ldIM M56 w54 (a58.add ((n57.toNat) * 4)) 2 fun n61 => ldIM M56 w54 (a58.add ((n57.toNat) * 4)) 3 fun n62 => ldIM M56 w54 ((bx g21).add 0) 0 fun n63 => ldSM M56 w54 ((bx g21).add 2) 0 fun A64 n65 c66 => ((0 : Int) ≤ (wrap .i64 ((wrap .i64 (z49.1 + 1)) * 4)) ∧ (wrap .i64 ((wrap .i64 (z49.1 + 1)) * 4)) ≤ ((c66 : Nat) : Int) ∧ ((0 : Int) ≤ (wrap .i64 (z49.1 * 4)) ∧ (wrap .i64 (z49.1 * 4)) ≤ ((((wrap .i64 ((wrap .i64 (z49.1 + 1)) * 4)).toNat) : Nat) : Int) ∧ Cl 205 #[(.agg #[(iv n59), (iv n60), (iv n61), (iv n62)]), (iv (wrap .i64 ((wrap .i64 (n63 * 8)) + z49.1))), (sv (if c66 = ((wrap .i64 (z49.1 * 4)).toNat) then A64 else A64.map (·.add (((wrap .i64 (z49.1 * 4)).toNat) * szOf Tryz.prog 3))) (((wrap .i64 ((wrap .i64 (z49.1 + 1)) * 4)).toNat) - ((wrap .i64 (z49.1 * 4)).toNat)) (c66 - ((wrap .i64 (z49.1 * 4)).toNat)))] w54.drew fun v67 w68 => (∃ (A69 : OA) (n70 c71 : Nat), v67 = (sv A69 n70 c71) ∧ SameBut M56 w54 w68 ∧ LoopT (σ := Int × Unit) (fun z72 w73 next74 => bcase (decide (z72.1 < 4)) ((idx z72.1 n70 A69 fun a75 => ldI w73 ((a75.add ((z72.1.toNat) * 1)).add 0) fun n76 => (idx (wrap .i64 ((wrap .i64 (z49.1 * 4)) + z72.1)) n34 A33 fun a77 => stCells (a77.add (((wrap .i64 ((wrap .i64 (z49.1 * 4)) + z72.1)).toNat) * 1)) [(iv n76)] 0 w73 fun w78 => next74 ((wrap .i64 (z72.1 + 1)), ()) w78))) (next51 ((wrap .i64 (z49.1 + 1)), ()) w73)) (0, ()) w68)))))) (next51 ((wrap .i64 (z49.1 + 1)), ()) w54))) (K (sv A33 n34 c35) w50)) (0, ()) w48)

def spec_l13Apply.ann : Ann := (.seq .l (.seq .l (.seq .l (.seq (.seq .l (.one (.loop [(7, .int .i64)] (.seq (.seq .l (.two .l .l)) (.seq (.one (.seq .l (.two (.seq .l (.seq .l (.one (.loop [(9, .int .i64)] (.seq (.seq .l (.two .l .l)) (.seq (.one .l) .l)))))) .l))) .l))))) (.seq .l .l)))))

theorem spec_l13Apply.con {xs0 : List D.Ins} {A0 A1_1 A1_2 : OA} {c0 c1_1 c1_2 : Nat} {s1 : D.Warp} {r : List Int} {w : World} (hp : M.spec_l13Apply_pre xs0 s1) (hr : r = M.spec_l13Apply xs0 s1) (R0 : Row el89 w A0 xs0) (hc0 : xs0.length ≤ c0) (R1_1 : Row el130 w A1_1 s1.Frames) (hc1_1 : s1.Frames.length ≤ c1_1) (R1_2 : Row el3 w A1_2 s1.Regs) (hc1_2 : s1.Regs.length ≤ c1_2) :
    Cl 152 #[(sv A0 xs0.length c0), (.agg (wC A1_1 c1_1 A1_2 c1_2 s1))] w (fun v_ w_ => ∃ (A0_ : OA) (c0_ : Nat), v_ = (sv A0_ r.length c0_) ∧ Own el3 w_ w.heap.size A0_ c0_ r ∧ Ext w w_) := by
 have H := wp.spec_l13Apply.math xs0 s1 hp
 refine begK mixed Tryz.f152 ann (vc A0 xs0.length c0 s1.Number A1_1 s1.Frames.length c1_1 A1_2 s1.Regs.length c1_2) ?_
 unfold vc
 unfold wp.spec_l13Apply at H
 refine newBlk (fun g4_ w21 L4 O4 e22 => ?_)
 have hB := ethen (Ext.refl w) e22
 refine buildOwn el3 ([] : List Int) (fun _ => by kernel_rfl) rfl (fun A23 w24 P5 e25 => ?_)
 have N5_4 := P5.apart_old O4.lt
 have O4 := O4.ext e25
 have O5 := P5.mono hB.size
 have hB := ethen hB e25
 refine ⟨_, _, _, (O4.a 2), ?_⟩
 obtain ⟨hl30, H⟩ := H
 refine appO slt24 O5 (R1_2.ext hB) hB.size hl30 (fun A26 c27 w28 P5 e29 => ?_)
 have N5_4_ := Apart.app N5_4 e29 O4.lt
 have O4 := O4.app e29 N5_4
 have N5_4 := N5_4_
 have hB := eapp hB e29 O5
 have O5 := P5
 refine ⟨_, _, _, (O4.a 1), _, _, _, (O4.a 1), ?_⟩
 obtain ⟨⟨h0_34, h1_35⟩, H⟩ := H
 obtain ⟨a32, ha33, hat31⟩ := Row.at (R1_1.ext hB) h0_34 h1_35
 refine ⟨h0_34, h1_35, a32, ha33, _, (hat31 0 _ rfl), _, (hat31 1 _ rfl), _, (hat31 2 _ rfl), ?_⟩
 refine newSt #[(iv ((rd s1.Frames (wrap .i64 ((s1.Frames.length : Int) - 1))).Pc)), (iv ((rd s1.Frames (wrap .i64 ((s1.Frames.length : Int) - 1))).Stop)), (iv ((rd s1.Frames (wrap .i64 ((s1.Frames.length : Int) - 1))).Mask))] (fun g6_ w38 L6 O6 e39 => ?_)
 have N5_6 := O5.apart_new L6
 have O4 := O4.ext e39
 have O5 := O5.ext e39
 have hB := ethen hB e39
 obtain ⟨J115, ⟨m199, hJ198⟩, hS116⟩ := H
 refine ⟨fun m_ z_ w_ => ∃ (i111 : Int) (xs112 : List Int), z_ = (i111, ()) ∧ J115 m_ (i111, xs112, ()) ∧ Ext w w_ ∧ Own el3 w_ w.heap.size A26 c27 xs112 ∧ ((([] : List Int) ++ s1.Regs)).length = xs112.length ∧ Blk w_ g4_ 31 (wC A1_1 c1_1 A1_2 c1_2 s1) ∧ Blk w_ g6_ 130 #[(iv ((rd s1.Frames (wrap .i64 ((s1.Frames.length : Int) - 1))).Pc)), (iv ((rd s1.Frames (wrap .i64 ((s1.Frames.length : Int) - 1))).Stop)), (iv ((rd s1.Frames (wrap .i64 ((s1.Frames.length : Int) - 1))).Mask))], ⟨m199, 0, (([] : List Int) ++ s1.Regs), rfl, hJ198, hB, O5, (by first | rfl | assumption | omega | (simp; done) | (simp; omega) | (simp; assumption)), O4, O6⟩, ?_⟩
 rintro m114 _ w118 ⟨i111, xs112, rfl, hJ200, hB, O5, hn113, O4, O6⟩
 have H := hS116 m114 _ hJ200
 clear hS116 hJ200
 try dsimp only at H ⊢
 refine brc H (fun h H => ?_) fun h H => ?_
 ·refine ⟨_, (O6.a 2), ?_⟩
  obtain ⟨r119, hr120, H⟩ := callO H
  refine (spec_HasLane.con hr120 ).mono ?_
  rintro _ w122 ⟨rfl, e123⟩
  have O4 := O4.ext e123
  have O5 := O5.ext e123
  have O6 := O6.ext e123
  have hB := ethen hB e123
  refine ⟨r119, rfl, ?_⟩
  refine brc H (fun h H => ?_) fun h H => ?_
  ·refine ⟨(fun _ => False), _, noM (O6.a 0), ?_⟩
   obtain ⟨⟨h0_128, h1_129⟩, H⟩ := H
   obtain ⟨a126, ha127, hat125⟩ := Row.at (R0.ext hB) h0_128 h1_129
   refine ⟨h0_128, h1_129, a126, ha127, _, ⟨(fun h_ => h_), (hat125 0 _ rfl)⟩, _, ⟨(fun h_ => h_), (hat125 1 _ rfl)⟩, _, ⟨(fun h_ => h_), (hat125 2 _ rfl)⟩, _, ⟨(fun h_ => h_), (hat125 3 _ rfl)⟩, _, noM (O4.a 0), _, _, _, noM (O4.a 2), ?_⟩
   obtain ⟨⟨hh130, hh131, hl132, hl133⟩, H⟩ := H
   refine and_assoc.1 ⟨⟨hh130, Int.le_trans hh131 (Int.ofNat_le.2 hc1_2)⟩, ?_⟩
   refine and_assoc.1 ⟨⟨hl132, (by omega)⟩, ?_⟩
   rw [show (((wrap .i64 ((wrap .i64 (i111 + 1)) * 4)).toNat) - ((wrap .i64 (i111 * 4)).toNat)) = ((List.drop ((wrap .i64 (i111 * 4)).toNat) (List.take ((wrap .i64 ((wrap .i64 (i111 + 1)) * 4)).toNat) s1.Regs))).length from by first | rfl | (simp; done) | (simp; omega)]
   have R9_ := ((R1_2.take ((wrap .i64 ((wrap .i64 (i111 + 1)) * 4)).toNat)).drop (l := ((wrap .i64 (i111 * 4)).toNat)) (m := c1_2) (by have := hc1_2; simp; omega))
   have le9_ : ((List.drop ((wrap .i64 (i111 * 4)).toNat) (List.take ((wrap .i64 ((wrap .i64 (i111 + 1)) * 4)).toNat) s1.Regs))).length ≤ (c1_2 - ((wrap .i64 (i111 * 4)).toNat)) := by have := hc1_2; simp; omega
   have O4 := O4.ext (Ext.drew _)
   have O5 := O5.ext (Ext.drew _)
   have O6 := O6.ext (Ext.drew _)
   have hB := ethen hB (Ext.drew _)
   have hS124 := (Chg.refl (fun _ => False) w122).then (Ext.drew _)
   obtain ⟨hp136, H⟩ := H
   obtain ⟨r134, hr135, H⟩ := callO H
   refine (spec_l10Apply.con hp136 hr135 (R9_.ext hB) le9_).mono ?_
   rintro _ w137 ⟨A139, c140, rfl, P10, e138⟩
   have N5_10 := aN O5 P10
   have O4 := O4.ext e138
   have O5 := O5.ext e138
   have O6 := O6.ext e138
   have O10 := P10.mono hB.size
   have hB := ethen hB e138
   have hS124 := hS124.then e138
   refine ⟨A139, r134.length, c140, rfl, sameBut_chg hS124, ?_⟩
   obtain ⟨J164, ⟨m190, hJ189⟩, hS165⟩ := H
   refine ⟨fun m_ z_ w_ => ∃ (i160 : Int) (xs161 : List Int), z_ = (i160, ()) ∧ J164 m_ (i160, xs161, ()) ∧ Ext w w_ ∧ Own el3 w_ w.heap.size A26 c27 xs161 ∧ ((([] : List Int) ++ s1.Regs)).length = xs161.length ∧ Blk w_ g4_ 31 (wC A1_1 c1_1 A1_2 c1_2 s1) ∧ Blk w_ g6_ 130 #[(iv ((rd s1.Frames (wrap .i64 ((s1.Frames.length : Int) - 1))).Pc)), (iv ((rd s1.Frames (wrap .i64 ((s1.Frames.length : Int) - 1))).Stop)), (iv ((rd s1.Frames (wrap .i64 ((s1.Frames.length : Int) - 1))).Mask))] ∧ Own el3 w_ w.heap.size A139 c140 r134, ⟨m190, 0, xs112, rfl, hJ189, hB, O5, (by first | rfl | assumption | omega | (simp; done) | (simp; omega) | (simp; assumption)), O4, O6, O10⟩, ?_⟩
   rintro m163 _ w167 ⟨i160, xs161, rfl, hJ191, hB, O5, hn162, O4, O6, O10⟩
   have H := hS165 m163 _ hJ191
   clear hS165 hJ191
   try dsimp only at H ⊢
   refine brc H (fun h H => ?_) fun h H => ?_
   ·obtain ⟨⟨h0_171, h1_172⟩, H⟩ := H
    obtain ⟨a169, ha170, hat168⟩ := Row.at O10.row h0_171 h1_172
    refine ⟨h0_171, h1_172, a169, ha170, _, (hat168 0 _ rfl), ?_⟩
    obtain ⟨⟨h0_176, h1_177⟩, H⟩ := H
    obtain ⟨a174, ha175, hat173⟩ := Row.at O5.row h0_176 h1_177
    refine ⟨h0_176, (by first | exact h1_177 | omega | (simp at h1_177 ⊢; omega)), a174, ha175, ?_⟩
    refine Own.stA O5 ha175 h0_176 h1_177 0 (rd r134 i160) (fun w178 O5 e179 hb180 => ?_)
    have O4 := O4.chg e179 (fun h_ => (N5_4) _ ha175 h_.symm)
    have O6 := O6.chg e179 (fun h_ => (N5_6) _ ha175 h_.symm)
    have O10 := O10.chg e179 (((N5_10).symm).left ha175)
    have hB := echg hB e179 hb180
    obtain ⟨m181, hm182, hJ183⟩ := H
    exact ⟨m181, hm182, _, _, rfl, hJ183, hB, O5, (by first | rfl | assumption | omega | (simp; done) | (simp; omega) | (simp; assumption)), O4, O6, O10⟩
   obtain ⟨m184, hm185, hJ186⟩ := H
   exact ⟨m184, hm185, _, _, rfl, hJ186, hB, O5, (by first | rfl | assumption | omega | (simp; done) | (simp; omega) | (simp; assumption)), O4, O6⟩
  obtain ⟨m192, hm193, hJ194⟩ := H
  exact ⟨m192, hm193, _, _, rfl, hJ194, hB, O5, (by first | rfl | assumption | omega | (simp; done) | (simp; omega) | (simp; assumption)), O4, O6⟩
 cases hr.trans H.symm
 exact ⟨A26, c27, (by first | rfl | (rw [hn113]; done) | (simp; done) | (simp; omega) | (simp [*]; done)), (by first | exact O5 | (simp only [bC, wC, List.length_set]; exact O5) | (rw [← hn113]; exact O5)), hB⟩
def spec_l13Step.vc (A0 : OA) (n0 c0 : Nat) (x1_0 : Int) (A1_1 : OA) (n1_1 c1_1 : Nat) (A1_2 : OA) (n1_2 c1_2 : Nat) (w : World) (K : VK) : Prop :=
  newK w (.cells #[(iv x1_0), (sv A1_1 n1_1 c1_1), (sv A1_2 n1_2 c1_2)] 31) fun g21 w22 => newK w22 (.cells #[(iv 0), (sv none 0 0), (sv none 0 0)] 31) fun g23 w24 => ldI w24 ((bx g21).add 0) fun n25 => ldS w24 ((bx g21).add 1) fun A26 n27 c28 => ldS w24 ((bx g21).add 2) fun A29 n30 c31 => Cl 68 #[(.agg #[(iv n25), (sv A26 n27 c28), (sv A29 n30 c31)])] w24 fun v32 w33 => (∃ (n34 : Int), True ∧ ∃ (A35 : OA) (n36 c37 : Nat), True ∧ ∃ (A38 : OA) (n39 c40 : Nat), True ∧ v32 = (.agg #[(iv n34), (sv A35 n36 c37), (sv A38 n39 c40)]) ∧ newK w33 (.cells #[(iv 0), (sv none 0 0), (sv none 0 0)] 31) fun g41 w42 => stCells (bx g41) [(iv n34), (sv A35 n36 c37), (sv A38 n39 c40)] 0 w42 fun w43 => ldS w43 (((bx g21).add 1).add 0) fun A44 n45 c46 => ldS w43 (((bx g21).add 1).add 0) fun A47 n48 c49 => (idx (wrap .i64 (((n45 : Nat) : Int) - 1)) n48 A47 fun a50 => ldI w43 ((a50.add (((wrap .i64 (((n45 : Nat) : Int) - 1)).toNat) * 3)).add 0) fun n51 => ldI w43 ((a50.add (((wrap .i64 (((n45 : Nat) : Int) - 1)).toNat) * 3)).add 1) fun n52 => ldI w43 ((a50.add (((wrap .i64 (((n45 : Nat) : Int) - 1)).toNat) * 3)).add 2) fun n53 => newK w43 (.cells #[(iv 0), (iv 0), (iv 0)] 130) fun g54 w55 => stCells (bx g54) [(iv n51), (iv n52), (iv n53)] 0 w55 fun w56 => ldI w56 (((bx g54).add 0).add 0) fun n57 => (idx n57 n0 A0 fun a58 => ldI w56 ((a58.add ((n57.toNat) * 4)).add 0) fun n59 => ldI w56 ((a58.add ((n57.toNat) * 4)).add 1) fun n60 => ldI w56 ((a58.add ((n57.toNat) * 4)).add 2) fun n61 => ldI w56 ((a58.add ((n57.toNat) * 4)).add 3) fun n62 => newK w56 (.cells #[(iv 0), (iv 0), (iv 0), (iv 0)] 89) fun g63 w64 => stCells (bx g63) [(iv n59), (iv n60), (iv n61), (iv n62)] 0 w64 fun w65 => ldI w65 ((bx g21).add 0) fun n66 => ldS w65 ((bx g21).add 1) fun A67 n68 c69 => ldS w65 ((bx g21).add 2) fun A70 n71 c72 => Cl 89 #[(sv A0 n0 c0), (.agg #[(iv n66), (sv A67 n68 c69), (sv A70 n71 c72)])] w65 fun v73 w74 => (∃ (b75 : Bool), v73 = (.bool b75) ∧ bcase b75 (ldI w74 ((bx g21).add 0) fun n76 => ldS w74 ((bx g21).add 1) fun A77 n78 c79 => ldS w74 ((bx g21).add 2) fun A80 n81 c82 => ldI w74 (((bx g63).add 1).add 0) fun n83 => Cl 149 #[(.agg #[(iv n76), (sv A77 n78 c79), (sv A80 n81 c82)]), (iv n83)] w74 fun v84 w85 => (∃ (n86 : Int), v84 = (iv n86) ∧ ldI w85 (((bx g54).add 0).add 0) fun n87 => Cl 150 #[(sv A0 n0 c0), (iv n87)] w85 fun v88 w89 => (∃ (n90 : Int), v88 = (iv n90) ∧ ldS w89 (((bx g41).add 1).add 0) fun A91 n92 c93 => (idx (wrap .i64 (((n45 : Nat) : Int) - 1)) n92 A91 fun a94 => stCells ((a94.add (((wrap .i64 (((n45 : Nat) : Int) - 1)).toNat) * 3)).add 0) [(iv n90)] 0 w89 fun w95 => ldS w95 (((bx g41).add 1).add 0) fun A96 n97 c98 => ldI w95 (((bx g54).add 0).add 0) fun n99 => ldI w95 (((bx g54).add 2).add 0) fun n100 => ldI w95 (((bx g63).add 2).add 0) fun n101 => Run Tryz.prog (Instr.buildSlice 29 2 #[(0, (.agg #[(iv (wrap .i64 (n99 + 1))), (iv n90), (iv (wrap .i64 (n100 - n86)))])), (1, (.agg #[(iv n101), (iv n90), (iv n86)]))]) w95 fun v102 w103 => ∃ (A104 : OA) (n105 c106 : Nat), v102 = .slice A104 n105 c106 ∧ Run Tryz.prog (Builtin.append_ #[29, 29] 29 #[(sv A96 n97 c98), (sv A104 n105 c106)]) w103 fun v107 w108 => ∃ (A109 : OA) (n110 c111 : Nat), v107 = .slice A109 n110 c111 ∧ stCells ((bx g41).add 1) [(sv A109 n110 c111)] 0 w108 fun w112 => ldI w112 ((bx g41).add 0) fun n113 => ldS w112 ((bx g41).add 1) fun A114 n115 c116 => ldS w112 ((bx g41).add 2) fun A117 n118 c119 => Cl 151 #[(sv A0 n0 c0), (.agg #[(iv n113), (sv A114 n115 c116), (sv A117 n118 c119)])] w112 fun v120 w121 => (∃ (n122 : Int), True ∧ ∃ (A123 : OA) (n124 c125 : Nat), True ∧ ∃ (A126 : OA) (n127 c128 : Nat), True ∧ v120 = (.agg #[(iv n122), (sv A123 n124 c125), (sv A126 n127 c128)]) ∧ stCells (bx g23) [(iv n122), (sv A123 n124 c125), (sv A126 n127 c128)] 0 w121 fun w129 => ldI w129 ((bx g23).add 0) fun n130 => ldS w129 ((bx g23).add 1) fun A131 n132 c133 => ldS w129 ((bx g23).add 2) fun A134 n135 c136 => K (.agg #[(iv n130), (sv A131 n132 c133), (sv A134 n135 c136)]) w129))))) (ldI w74 ((bx g21).add 0) fun n137 => ldS w74 ((bx g21).add 1) fun A138 n139 c140 => ldS w74 ((bx g21).add 2) fun A141 n142 c143 => Cl 152 #[(sv A0 n0 c0), (.agg #[(iv n137), (sv A138 n139 c140), (sv A141 n142 c143)])] w74 fun v144 w145 => (∃ (A146 : OA) (n147 c148 : Nat), v144 = (sv A146 n147 c148) ∧ stCells ((bx g41).add 2) [(sv A146 n147 c148)] 0 w145 fun w149 => ldI w149 (((bx g63).add 0).add 0) fun n150 => bcase (n150 == 12) (ldS w149 (((bx g41).add 1).add 0) fun A151 n152 c153 => (idx (wrap .i64 (((n45 : Nat) : Int) - 1)) n152 A151 fun a154 => stCells ((a154.add (((wrap .i64 (((n45 : Nat) : Int) - 1)).toNat) * 3)).add 0) [(iv ((n0 : Nat) : Int))] 0 w149 fun w155 => ldI w155 ((bx g41).add 0) fun n156 => ldS w155 ((bx g41).add 1) fun A157 n158 c159 => ldS w155 ((bx g41).add 2) fun A160 n161 c162 => Cl 151 #[(sv A0 n0 c0), (.agg #[(iv n156), (sv A157 n158 c159), (sv A160 n161 c162)])] w155 fun v163 w164 => (∃ (n165 : Int), True ∧ ∃ (A166 : OA) (n167 c168 : Nat), True ∧ ∃ (A169 : OA) (n170 c171 : Nat), True ∧ v163 = (.agg #[(iv n165), (sv A166 n167 c168), (sv A169 n170 c171)]) ∧ stCells (bx g23) [(iv n165), (sv A166 n167 c168), (sv A169 n170 c171)] 0 w164 fun w172 => ldI w172 ((bx g23).add 0) fun n173 => ldS w172 ((bx g23).add 1) fun A174 n175 c176 => ldS w172 ((bx g23).add 2) fun A177 n178 c179 => K (.agg #[(iv n173), (sv A174 n175 c176), (sv A177 n178 c179)]) w172))) (bcase (n150 == 11) (ldS w149 (((bx g41).add 1).add 0) fun A180 n181 c182 => ldI w149 (((bx g63).add 2).add 0) fun n183 => (idx (wrap .i64 (((n45 : Nat) : Int) - 1)) n181 A180 fun a184 => stCells ((a184.add (((wrap .i64 (((n45 : Nat) : Int) - 1)).toNat) * 3)).add 0) [(iv n183)] 0 w149 fun w185 => ldI w185 ((bx g41).add 0) fun n186 => ldS w185 ((bx g41).add 1) fun A187 n188 c189 => ldS w185 ((bx g41).add 2) fun A190 n191 c192 => Cl 151 #[(sv A0 n0 c0), (.agg #[(iv n186), (sv A187 n188 c189), (sv A190 n191 c192)])] w185 fun v193 w194 => (∃ (n195 : Int), True ∧ ∃ (A196 : OA) (n197 c198 : Nat), True ∧ ∃ (A199 : OA) (n200 c201 : Nat), True ∧ v193 = (.agg #[(iv n195), (sv A196 n197 c198), (sv A199 n200 c201)]) ∧ stCells (bx g23) [(iv n195), (sv A196 n197 c198), (sv A199 n200 c201)] 0 w194 fun w202 => ldI w202 ((bx g23).add 0) fun n203 => ldS w202 ((bx g23).add 1) fun A204 n205 c206 => ldS w202 ((bx g23).add 2) fun A207 n208 c209 => K (.agg #[(iv n203), (sv A204 n205 c206), (sv A207 n208 c209)]) w202))) (ldS w149 (((bx g41).add 1).add 0) fun A210 n211 c212 => ldI w149 (((bx g54).add 0).add 0) fun n213 => (idx (wrap .i64 (((n45 : Nat) : Int) - 1)) n211 A210 fun a214 => stCells ((a214.add (((wrap .i64 (((n45 : Nat) : Int) - 1)).toNat) * 3)).add 0) [(iv (wrap .i64 (n213 + 1)))] 0 w149 fun w215 => JoinT (σ := Bool × Unit) (fun J216 => (∃ M217 : Nat → Prop, ldIM M217 w215 ((bx g63).add 0) 0 fun n218 => bcase (n218 == 10) (ldIM M217 w215 (bx g21) 0 fun n219 => ldSM M217 w215 (bx g21) 1 fun A220 n221 c222 => ldSM M217 w215 (bx g21) 2 fun A223 n224 c225 => ldIM M217 w215 ((bx g63).add 1) 0 fun n226 => ldIM M217 w215 ((bx g54).add 2) 0 fun n227 => Cl 149 #[(.agg #[(iv n219), (sv A220 n221 c222), (sv A223 n224 c225)]), (iv n226)] w215.drew fun v228 w229 => (∃ (n230 : Int), v228 = (iv n230) ∧ SameBut M217 w215 w229 ∧ J216 ((n230 == n227), ()) w229)) (J216 (false, ()) w215.drew))) fun z231 w232 => bcase z231.1 (ldS w232 (((bx g41).add 1).add 0) fun A233 n234 c235 => ldI w232 (((bx g63).add 2).add 0) fun n236 => (idx (wrap .i64 (((n45 : Nat) : Int) - 1)) n234 A233 fun a237 => stCells ((a237.add (((wrap .i64 (((n45 : Nat) : Int) - 1)).toNat) * 3)).add 0) [(iv n236)] 0 w232 fun w238 => ldI w238 ((bx g41).add 0) fun n239 => ldS w238 ((bx g41).add 1) fun A240 n241 c242 => ldS w238 ((bx g41).add 2) fun A243 n244 c245 => Cl 151 #[(sv A0 n0 c0), (.agg #[(iv n239), (sv A240 n241 c242), (sv A243 n244 c245)])] w238 fun v246 w247 => (∃ (n248 : Int), True ∧ ∃ (A249 : OA) (n250 c251 : Nat), True ∧ ∃ (A252 : OA) (n253 c254 : Nat), True ∧ v246 = (.agg #[(iv n248), (sv A249 n250 c251), (sv A252 n253 c254)]) ∧ stCells (bx g23) [(iv n248), (sv A249 n250 c251), (sv A252 n253 c254)] 0 w247 fun w255 => ldI w255 ((bx g23).add 0) fun n256 => ldS w255 ((bx g23).add 1) fun A257 n258 c259 => ldS w255 ((bx g23).add 2) fun A260 n261 c262 => K (.agg #[(iv n256), (sv A257 n258 c259), (sv A260 n261 c262)]) w255))) (ldI w232 ((bx g41).add 0) fun n263 => ldS w232 ((bx g41).add 1) fun A264 n265 c266 => ldS w232 ((bx g41).add 2) fun A267 n268 c269 => Cl 151 #[(sv A0 n0 c0), (.agg #[(iv n263), (sv A264 n265 c266), (sv A267 n268 c269)])] w232 fun v270 w271 => (∃ (n272 : Int), True ∧ ∃ (A273 : OA) (n274 c275 : Nat), True ∧ ∃ (A276 : OA) (n277 c278 : Nat), True ∧ v270 = (.agg #[(iv n272), (sv A273 n274 c275), (sv A276 n277 c278)]) ∧ stCells (bx g23) [(iv n272), (sv A273 n274 c275), (sv A276 n277 c278)] 0 w271 fun w279 => ldI w279 ((bx g23).add 0) fun n280 => ldS w279 ((bx g23).add 1) fun A281 n282 c283 => ldS w279 ((bx g23).add 2) fun A284 n285 c286 => K (.agg #[(iv n280), (sv A281 n282 c283), (sv A284 n285 c286)]) w279)))))))))))

def spec_l13Step.ann : Ann := (.seq .l (.seq .l (.seq .l (.seq .l (.seq .l (.seq (.seq .l (.two (.seq .l (.seq .l (.seq .l (.seq .l (.seq .l .l))))) .l)) (.seq .l (.seq (.seq .l (.one (.seq .l (.two .l (.seq .l (.two .l (.seq .l (.cut [(91, .bool)] .l (.two .l .l))))))))) (.seq .l .l)))))))))

theorem spec_l13Step.con {xs0 : List D.Ins} {A0 A1_1 A1_2 : OA} {c0 c1_1 c1_2 : Nat} {s1 r : D.Warp} {w : World} (hp : M.spec_l13Step_pre xs0 s1) (hr : r = M.spec_l13Step xs0 s1) (R0 : Row el89 w A0 xs0) (hc0 : xs0.length ≤ c0) (R1_1 : Row el130 w A1_1 s1.Frames) (hc1_1 : s1.Frames.length ≤ c1_1) (R1_2 : Row el3 w A1_2 s1.Regs) (hc1_2 : s1.Regs.length ≤ c1_2) :
    Cl 84 #[(sv A0 xs0.length c0), (.agg (wC A1_1 c1_1 A1_2 c1_2 s1))] w (fun v_ w_ => ∃ (A0_ : OA) (c0_ : Nat) (A1_ : OA) (c1_ : Nat), v_ = (.agg (wC A0_ c0_ A1_ c1_ r)) ∧ Own el130 w_ w.heap.size A0_ c0_ r.Frames ∧ Own el3 w_ w.heap.size A1_ c1_ r.Regs ∧ Ext w w_) := by
 have H := wp.spec_l13Step.math xs0 s1 hp
 refine begK mixed Tryz.f84 ann (vc A0 xs0.length c0 s1.Number A1_1 s1.Frames.length c1_1 A1_2 s1.Regs.length c1_2) ?_
 unfold vc
 unfold wp.spec_l13Step at H
 refine newBlk (fun g4_ w21 L4 O4 e22 => ?_)
 have hB := ethen (Ext.refl w) e22
 refine newBlk (fun g5_ w23 L5 P5 e24 => ?_)
 have O4 := O4.ext e24
 have O5 := P5
 have L5 := Nat.le_trans hB.size L5
 have hB := ethen hB e24
 refine ⟨_, (O4.a 0), _, _, _, (O4.a 1), _, _, _, (O4.a 2), ?_⟩
 obtain ⟨hp27, H⟩ := H
 obtain ⟨r25, hr26, H⟩ := callO H
 refine (spec_l12Copy.con hp27 hr26 (R1_1.ext hB) hc1_1 (R1_2.ext hB) hc1_2).mono ?_
 rintro _ w28 ⟨A30, c31, A32, c33, rfl, P6, P7, e29⟩
 have N6_4 := P6.apart_old O4.lt
 have N6_5 := P6.apart_old O5.lt
 have O4 := O4.ext e29
 have O5 := O5.ext e29
 have O6 := P6.mono hB.size
 have O7 := P7.mono hB.size
 have hB := ethen hB e29
 refine ⟨r25.Number, trivial, A30, r25.Frames.length, c31, trivial, A32, r25.Regs.length, c33, trivial, rfl, ?_⟩
 refine newBlk (fun g8_ w34 L8 P8 e35 => ?_)
 have N4_8 := O4.ne L8
 have N5_8 := O5.ne L8
 have N6_8 := O6.apart_new L8
 have N7_8 := O7.apart_new L8
 have O4 := O4.ext e35
 have O5 := O5.ext e35
 have O6 := O6.ext e35
 have O7 := O7.ext e35
 have O8 := P8
 have L8 := Nat.le_trans hB.size L8
 have hB := ethen hB e35
 refine stB O8 0 (wC A30 c31 A32 c33 r25) (fun w36 P8 e37 => ?_)
 have O4_ := O4.chg e37 N4_8
 have O5_ := O5.chg e37 N5_8
 have O6_ := O6.chg e37 N6_8
 have O7_ := O7.chg e37 N7_8
 have O4 := O4_
 have O5 := O5_
 have O6 := O6_
 have O7 := O7_
 have hB := echg hB e37 L8
 have O8 := P8
 refine ⟨_, _, _, (O4.a 1), _, _, _, (O4.a 1), ?_⟩
 obtain ⟨⟨h0_41, h1_42⟩, H⟩ := H
 obtain ⟨a39, ha40, hat38⟩ := Row.at (R1_1.ext hB) h0_41 h1_42
 refine ⟨h0_41, h1_42, a39, ha40, _, (hat38 0 _ rfl), _, (hat38 1 _ rfl), _, (hat38 2 _ rfl), ?_⟩
 refine newBlk (fun g9_ w43 L9 P9 e44 => ?_)
 have N4_9 := O4.ne L9
 have N5_9 := O5.ne L9
 have N6_9 := O6.apart_new L9
 have N7_9 := O7.apart_new L9
 have N8_9 := O8.ne L9
 have O4 := O4.ext e44
 have O5 := O5.ext e44
 have O6 := O6.ext e44
 have O7 := O7.ext e44
 have O8 := O8.ext e44
 have O9 := P9
 have L9 := Nat.le_trans hB.size L9
 have hB := ethen hB e44
 refine stBlk O9 (o := 0) (cs' := #[(iv ((rd s1.Frames (wrap .i64 ((s1.Frames.length : Int) - 1))).Pc)), (iv ((rd s1.Frames (wrap .i64 ((s1.Frames.length : Int) - 1))).Stop)), (iv ((rd s1.Frames (wrap .i64 ((s1.Frames.length : Int) - 1))).Mask))]) rfl rfl (Nat.le_of_ble_eq_true rfl) rfl (fun w45 O9 e46 => ?_)
 have O4_ := O4.chg e46 N4_9
 have O5_ := O5.chg e46 N5_9
 have O6_ := O6.chg e46 N6_9
 have O7_ := O7.chg e46 N7_9
 have O8_ := O8.chg e46 N8_9
 have O4 := O4_
 have O5 := O5_
 have O6 := O6_
 have O7 := O7_
 have O8 := O8_
 have hB := echg hB e46 L9
 refine ⟨_, (O9.a 0), ?_⟩
 obtain ⟨⟨h0_50, h1_51⟩, H⟩ := H
 obtain ⟨a48, ha49, hat47⟩ := Row.at (R0.ext hB) h0_50 h1_51
 refine ⟨h0_50, h1_51, a48, ha49, _, (hat47 0 _ rfl), _, (hat47 1 _ rfl), _, (hat47 2 _ rfl), _, (hat47 3 _ rfl), ?_⟩
 refine newBlk (fun g10_ w52 L10 P10 e53 => ?_)
 have N4_10 := O4.ne L10
 have N5_10 := O5.ne L10
 have N6_10 := O6.apart_new L10
 have N7_10 := O7.apart_new L10
 have N8_10 := O8.ne L10
 have N9_10 := O9.ne L10
 have O4 := O4.ext e53
 have O5 := O5.ext e53
 have O6 := O6.ext e53
 have O7 := O7.ext e53
 have O8 := O8.ext e53
 have O9 := O9.ext e53
 have O10 := P10
 have L10 := Nat.le_trans hB.size L10
 have hB := ethen hB e53
 refine stBlk O10 (o := 0) (cs' := #[(iv ((rd xs0 ((rd s1.Frames (wrap .i64 ((s1.Frames.length : Int) - 1))).Pc)).Op)), (iv ((rd xs0 ((rd s1.Frames (wrap .i64 ((s1.Frames.length : Int) - 1))).Pc)).A)), (iv ((rd xs0 ((rd s1.Frames (wrap .i64 ((s1.Frames.length : Int) - 1))).Pc)).B)), (iv ((rd xs0 ((rd s1.Frames (wrap .i64 ((s1.Frames.length : Int) - 1))).Pc)).C))]) rfl rfl (Nat.le_of_ble_eq_true rfl) rfl (fun w54 O10 e55 => ?_)
 have O4_ := O4.chg e55 N4_10
 have O5_ := O5.chg e55 N5_10
 have O6_ := O6.chg e55 N6_10
 have O7_ := O7.chg e55 N7_10
 have O8_ := O8.chg e55 N8_10
 have O9_ := O9.chg e55 N9_10
 have O4 := O4_
 have hB := echg hB e55 L10
 refine ⟨_, (O4.a 0), _, _, _, (O4.a 1), _, _, _, (O4.a 2), ?_⟩
 obtain ⟨hp58, H⟩ := H
 obtain ⟨r56, hr57, H⟩ := callO H
 refine (spec_l13Splits.con hp58 hr57 (R0.ext hB) hc0 (R1_1.ext hB) hc1_1 (R1_2.ext hB) hc1_2).mono ?_
 rintro _ w59 ⟨rfl, e60⟩
 have O4 := O4.ext e60
 have O5 := O5_.ext e60
 have O6 := O6_.ext e60
 have O7 := O7_.ext e60
 have O8 := O8_.ext e60
 have O9 := O9_.ext e60
 have O10 := O10.ext e60
 have hB := ethen hB e60
 refine ⟨r56, rfl, ?_⟩
 refine brc H (fun h H => ?_) fun h H => ?_
 ·refine ⟨_, (O4.a 0), _, _, _, (O4.a 1), _, _, _, (O4.a 2), _, (O10.a 1), ?_⟩
  obtain ⟨hp63, H⟩ := H
  obtain ⟨r61, hr62, H⟩ := callO H
  refine (spec_ZeroMask.con hp63 hr62 (R1_1.ext hB) hc1_1 (R1_2.ext hB) hc1_2).mono ?_
  rintro _ w64 ⟨rfl, e65⟩
  have O9 := O9.ext e65
  have hB := ethen hB e65
  refine ⟨r61, rfl, _, (O9.a 0), ?_⟩
  obtain ⟨hp68, H⟩ := H
  obtain ⟨r66, hr67, H⟩ := callO H
  refine (spec_l09Join.con hp68 hr67 (R0.ext hB) hc0).mono ?_
  rintro _ w69 ⟨rfl, e70⟩
  have O5 := (O5.ext e65).ext e70
  have O6 := (O6.ext e65).ext e70
  have O7 := (O7.ext e65).ext e70
  have O8 := (O8.ext e65).ext e70
  have O9 := O9.ext e70
  have O10 := (O10.ext e65).ext e70
  have hB := ethen hB e70
  refine ⟨r66, rfl, _, _, _, (O8.a 1), ?_⟩
  obtain ⟨⟨h0_74, h1_75⟩, H⟩ := H
  obtain ⟨a72, ha73, hat71⟩ := Row.at O6.row h0_74 h1_75
  refine ⟨h0_74, h1_75, a72, ha73, ?_⟩
  refine Own.stA O6 ha73 h0_74 h1_75 0 (⟨r66, (rd r25.Frames (wrap .i64 ((s1.Frames.length : Int) - 1))).Stop, (rd r25.Frames (wrap .i64 ((s1.Frames.length : Int) - 1))).Mask⟩ : D.Frame) (fun w76 P6 e77 hb78 => ?_)
  have O5_ := O5.chg e77 (fun h_ => (N6_5) _ ha73 h_.symm)
  have O7_ := O7.chg e77 (((Own.apart2_type O7 O6 (by decide))).left ha73)
  have O8_ := O8.chg e77 (fun h_ => (N6_8) _ ha73 h_.symm)
  have O9_ := O9.chg e77 (fun h_ => (N6_9) _ ha73 h_.symm)
  have O10_ := O10.chg e77 (fun h_ => (N6_10) _ ha73 h_.symm)
  have O8 := O8_
  have O9 := O9_
  have O10 := O10_
  have hB := echg hB e77 hb78
  refine ⟨_, _, _, (O8.a 1), _, (O9.a 0), _, (O9.a 2), _, (O10.a 2), ?_⟩
  refine buildOwn el130 ([(⟨(wrap .i64 ((rd s1.Frames (wrap .i64 ((s1.Frames.length : Int) - 1))).Pc + 1)), r66, (wrap .i64 ((rd s1.Frames (wrap .i64 ((s1.Frames.length : Int) - 1))).Mask - r61))⟩ : D.Frame), (⟨(rd xs0 ((rd s1.Frames (wrap .i64 ((s1.Frames.length : Int) - 1))).Pc)).B, r66, r61⟩ : D.Frame)] : List D.Frame) (fun _ => by kernel_rfl) rfl (fun A79 w80 P11 e81 => ?_)
  have O6 := P6.ext e81
  have O7 := O7_.ext e81
  have O8 := O8.ext e81
  have O11 := P11.mono hB.size
  have hB := ethen hB e81
  obtain ⟨hl86, H⟩ := H
  refine appO slt29 O6 O11.row hB.size hl86 (fun A82 c83 w84 P6 e85 => ?_)
  have O7 := O7.app e85 (Own.apart2_type O7 O6 (by decide))
  have N6_8_ := Apart.app N6_8 e85 O8.lt
  have O8 := O8.app e85 N6_8
  have N6_8 := N6_8_
  have hB := eapp hB e85 O6
  have O6 := P6
  refine stBlk O8 (o := 1) (cs' := #[(iv r25.Number), (sv A82 ((((List.set r25.Frames ((wrap .i64 ((s1.Frames.length : Int) - 1)).toNat) (⟨r66, (rd r25.Frames (wrap .i64 ((s1.Frames.length : Int) - 1))).Stop, (rd r25.Frames (wrap .i64 ((s1.Frames.length : Int) - 1))).Mask⟩ : D.Frame)) ++ ([(⟨(wrap .i64 ((rd s1.Frames (wrap .i64 ((s1.Frames.length : Int) - 1))).Pc + 1)), r66, (wrap .i64 ((rd s1.Frames (wrap .i64 ((s1.Frames.length : Int) - 1))).Mask - r61))⟩ : D.Frame), (⟨(rd xs0 ((rd s1.Frames (wrap .i64 ((s1.Frames.length : Int) - 1))).Pc)).B, r66, r61⟩ : D.Frame)] : List D.Frame))).length) c83), (sv A32 r25.Regs.length c33)]) rfl rfl (Nat.le_of_ble_eq_true rfl) rfl (fun w87 O8 e88 => ?_)
  have O5 := ((O5_.ext e81).app e85 N6_5).chg e88 N5_8
  have O6_ := O6.chg e88 N6_8
  have O7_ := O7.chg e88 N7_8
  have O6 := O6_
  have O7 := O7_
  have hB := echg hB e88 L8
  refine ⟨_, (O8.a 0), _, _, _, (O8.a 1), _, _, _, (O8.a 2), ?_⟩
  obtain ⟨hp91, H⟩ := H
  obtain ⟨r89, hr90, H⟩ := callO H
  refine (spec_DropFrames.con hp91 hr90 (R0.ext hB) hc0 O6.row O6.le O7.row O7.le).mono ?_
  rintro _ w92 ⟨A94, c95, A96, c97, rfl, P12, P13, e93⟩
  have N12_5 := P12.apart_old O5.lt
  have N13_5 := P13.apart_old O5.lt
  have O5 := O5.ext e93
  have O12 := P12.mono hB.size
  have O13 := P13.mono hB.size
  have hB := ethen hB e93
  refine ⟨r89.Number, trivial, A94, r89.Frames.length, c95, trivial, A96, r89.Regs.length, c97, trivial, rfl, ?_⟩
  refine stBlk O5 (o := 0) (cs' := (wC A94 c95 A96 c97 r89)) rfl rfl (Nat.le_of_ble_eq_true rfl) rfl (fun w98 O5 e99 => ?_)
  have O12 := O12.chg e99 N12_5
  have O13 := O13.chg e99 N13_5
  have hB := echg hB e99 L5
  refine ⟨_, (O5.a 0), _, _, _, (O5.a 1), _, _, _, (O5.a 2), ?_⟩
  cases hr.trans H.symm
  exact ⟨A94, c95, A96, c97, rfl, O12, O13, hB⟩
 refine ⟨_, (O4.a 0), _, _, _, (O4.a 1), _, _, _, (O4.a 2), ?_⟩
 obtain ⟨hp102, H⟩ := H
 obtain ⟨r100, hr101, H⟩ := callO H
 refine (spec_l13Apply.con hp102 hr101 (R0.ext hB) hc0 (R1_1.ext hB) hc1_1 (R1_2.ext hB) hc1_2).mono ?_
 rintro _ w103 ⟨A105, c106, rfl, P14, e104⟩
 have N6_14 := aN O6 P14
 have N14_8 := P14.apart_old O8.lt
 have O4 := O4.ext e104
 have O5 := O5.ext e104
 have O6 := O6.ext e104
 have O8 := O8.ext e104
 have O9 := O9.ext e104
 have O10 := O10.ext e104
 have O14 := P14.mono hB.size
 have hB := ethen hB e104
 refine ⟨A105, r100.length, c106, rfl, ?_⟩
 refine stBlk O8 (o := 2) (cs' := #[(iv r25.Number), (sv A30 r25.Frames.length c31), (sv A105 r100.length c106)]) rfl rfl (Nat.le_of_ble_eq_true rfl) rfl (fun w107 O8 e108 => ?_)
 have O4_ := O4.chg e108 N4_8
 have O5_ := O5.chg e108 N5_8
 have O6_ := O6.chg e108 N6_8
 have O9_ := O9.chg e108 (N8_9).symm
 have O10_ := O10.chg e108 (N8_10).symm
 have O14_ := O14.chg e108 N14_8
 have O4 := O4_
 have O5 := O5_
 have O6 := O6_
 have O9 := O9_
 have O10 := O10_
 have O14 := O14_
 have hB := echg hB e108 L8
 refine ⟨_, (O10.a 0), ?_⟩
 refine brc H (fun h H => ?_) fun h H => ?_
 ·refine ⟨_, _, _, (O8.a 1), ?_⟩
  obtain ⟨⟨h0_112, h1_113⟩, H⟩ := H
  obtain ⟨a110, ha111, hat109⟩ := Row.at O6.row h0_112 h1_113
  refine ⟨h0_112, h1_113, a110, ha111, ?_⟩
  refine Own.stA O6 ha111 h0_112 h1_113 0 (⟨(xs0.length : Int), (rd r25.Frames (wrap .i64 ((s1.Frames.length : Int) - 1))).Stop, (rd r25.Frames (wrap .i64 ((s1.Frames.length : Int) - 1))).Mask⟩ : D.Frame) (fun w114 O6 e115 hb116 => ?_)
  have O5 := O5.chg e115 (fun h_ => (N6_5) _ ha111 h_.symm)
  have O8_ := O8.chg e115 (fun h_ => (N6_8) _ ha111 h_.symm)
  have O14_ := O14.chg e115 (((N6_14).symm).left ha111)
  have O8 := O8_
  have O14 := O14_
  have hB := echg hB e115 hb116
  refine ⟨_, (O8.a 0), _, _, _, (O8.a 1), _, _, _, (O8.a 2), ?_⟩
  obtain ⟨hp119, H⟩ := H
  obtain ⟨r117, hr118, H⟩ := callO H
  refine (cllA (spec_DropFrames.con hp119 hr118 (R0.ext hB) hc0 O6.row O6.le O14.row O14.le)).mono ?_
  rintro _ w120 ⟨A122, c123, A124, c125, rfl, P15, P16, e121⟩
  have N15_5 := P15.apart_old O5.lt
  have N16_5 := P16.apart_old O5.lt
  have O5 := O5.ext e121
  have O15 := P15.mono hB.size
  have O16 := P16.mono hB.size
  have hB := ethen hB e121
  refine ⟨r117.Number, trivial, A122, r117.Frames.length, c123, trivial, A124, r117.Regs.length, c125, trivial, rfl, ?_⟩
  refine stBlk O5 (o := 0) (cs' := (wC A122 c123 A124 c125 r117)) rfl rfl (Nat.le_of_ble_eq_true rfl) rfl (fun w126 O5 e127 => ?_)
  have O15 := O15.chg e127 N15_5
  have O16 := O16.chg e127 N16_5
  have hB := echg hB e127 L5
  refine ⟨_, (O5.a 0), _, _, _, (O5.a 1), _, _, _, (O5.a 2), ?_⟩
  cases hr.trans H.symm
  exact ⟨A122, c123, A124, c125, rfl, O15, O16, hB⟩
 refine brc H (fun h H => ?_) fun h H => ?_
 ·refine ⟨_, _, _, (O8.a 1), _, (O10.a 2), ?_⟩
  obtain ⟨⟨h0_131, h1_132⟩, H⟩ := H
  obtain ⟨a129, ha130, hat128⟩ := Row.at O6.row h0_131 h1_132
  refine ⟨h0_131, h1_132, a129, ha130, ?_⟩
  refine Own.stA O6 ha130 h0_131 h1_132 0 (⟨(rd xs0 ((rd s1.Frames (wrap .i64 ((s1.Frames.length : Int) - 1))).Pc)).B, (rd r25.Frames (wrap .i64 ((s1.Frames.length : Int) - 1))).Stop, (rd r25.Frames (wrap .i64 ((s1.Frames.length : Int) - 1))).Mask⟩ : D.Frame) (fun w133 O6 e134 hb135 => ?_)
  have O5 := O5.chg e134 (fun h_ => (N6_5) _ ha130 h_.symm)
  have O8_ := O8.chg e134 (fun h_ => (N6_8) _ ha130 h_.symm)
  have O14_ := O14.chg e134 (((N6_14).symm).left ha130)
  have O8 := O8_
  have O14 := O14_
  have hB := echg hB e134 hb135
  refine ⟨_, (O8.a 0), _, _, _, (O8.a 1), _, _, _, (O8.a 2), ?_⟩
  obtain ⟨hp138, H⟩ := H
  obtain ⟨r136, hr137, H⟩ := callO H
  refine (cllA (spec_DropFrames.con hp138 hr137 (R0.ext hB) hc0 O6.row O6.le O14.row O14.le)).mono ?_
  rintro _ w139 ⟨A141, c142, A143, c144, rfl, P17, P18, e140⟩
  have N17_5 := P17.apart_old O5.lt
  have N18_5 := P18.apart_old O5.lt
  have O5 := O5.ext e140
  have O17 := P17.mono hB.size
  have O18 := P18.mono hB.size
  have hB := ethen hB e140
  refine ⟨r136.Number, trivial, A141, r136.Frames.length, c142, trivial, A143, r136.Regs.length, c144, trivial, rfl, ?_⟩
  refine stBlk O5 (o := 0) (cs' := (wC A141 c142 A143 c144 r136)) rfl rfl (Nat.le_of_ble_eq_true rfl) rfl (fun w145 O5 e146 => ?_)
  have O17 := O17.chg e146 N17_5
  have O18 := O18.chg e146 N18_5
  have hB := echg hB e146 L5
  refine ⟨_, (O5.a 0), _, _, _, (O5.a 1), _, _, _, (O5.a 2), ?_⟩
  cases hr.trans H.symm
  exact ⟨A141, c142, A143, c144, rfl, O17, O18, hB⟩
 refine ⟨_, _, _, (O8.a 1), _, (O9.a 0), ?_⟩
 obtain ⟨⟨h0_150, h1_151⟩, H⟩ := H
 obtain ⟨a148, ha149, hat147⟩ := Row.at O6.row h0_150 h1_151
 refine ⟨h0_150, h1_151, a148, ha149, ?_⟩
 refine Own.stA O6 ha149 h0_150 h1_151 0 (⟨(wrap .i64 ((rd s1.Frames (wrap .i64 ((s1.Frames.length : Int) - 1))).Pc + 1)), (rd r25.Frames (wrap .i64 ((s1.Frames.length : Int) - 1))).Stop, (rd r25.Frames (wrap .i64 ((s1.Frames.length : Int) - 1))).Mask⟩ : D.Frame) (fun w152 P6 e153 hb154 => ?_)
 have O4 := O4.chg e153 (fun h_ => (N6_4) _ ha149 h_.symm)
 have O5 := O5.chg e153 (fun h_ => (N6_5) _ ha149 h_.symm)
 have O8_ := O8.chg e153 (fun h_ => (N6_8) _ ha149 h_.symm)
 have O9 := O9.chg e153 (fun h_ => (N6_9) _ ha149 h_.symm)
 have O10 := O10.chg e153 (fun h_ => (N6_10) _ ha149 h_.symm)
 have O14_ := O14.chg e153 (((N6_14).symm).left ha149)
 have O8 := O8_
 have O14 := O14_
 have hB := echg hB e153 hb154
 have O6 := P6
 obtain ⟨K199, hKK199, H⟩ := joinP_out H
 refine ⟨fun z_ w_ => ∃ (b155 : Bool), z_ = (b155, ()) ∧ K199 (b155, ()) ∧ Ext w w_ ∧ Blk w_ g5_ 31 #[(iv 0), (sv none 0 0), (sv none 0 0)] ∧ Own el130 w_ w.heap.size A30 c31 (List.set r25.Frames ((wrap .i64 ((s1.Frames.length : Int) - 1)).toNat) (⟨(wrap .i64 ((rd s1.Frames (wrap .i64 ((s1.Frames.length : Int) - 1))).Pc + 1)), (rd r25.Frames (wrap .i64 ((s1.Frames.length : Int) - 1))).Stop, (rd r25.Frames (wrap .i64 ((s1.Frames.length : Int) - 1))).Mask⟩ : D.Frame)) ∧ Blk w_ g8_ 31 #[(iv r25.Number), (sv A30 r25.Frames.length c31), (sv A105 r100.length c106)] ∧ Blk w_ g10_ 89 #[(iv ((rd xs0 ((rd s1.Frames (wrap .i64 ((s1.Frames.length : Int) - 1))).Pc)).Op)), (iv ((rd xs0 ((rd s1.Frames (wrap .i64 ((s1.Frames.length : Int) - 1))).Pc)).A)), (iv ((rd xs0 ((rd s1.Frames (wrap .i64 ((s1.Frames.length : Int) - 1))).Pc)).B)), (iv ((rd xs0 ((rd s1.Frames (wrap .i64 ((s1.Frames.length : Int) - 1))).Pc)).C))] ∧ Own el3 w_ w.heap.size A105 c106 r100, ?_, ?_⟩
 ·refine ⟨(fun _ => False), _, noM (O10.a 0), ?_⟩
  refine brc H (fun h H => ?_) fun h H => ?_
  ·refine ⟨_, noM (O4.a 0), _, _, _, noM (O4.a 1), _, _, _, noM (O4.a 2), _, noM (O10.a 1), _, noM (O9.a 2), ?_⟩
   have O5 := O5.ext (Ext.drew _)
   have O6 := O6.ext (Ext.drew _)
   have O8 := O8.ext (Ext.drew _)
   have O10 := O10.ext (Ext.drew _)
   have O14 := O14.ext (Ext.drew _)
   have hB := ethen hB (Ext.drew _)
   have hS159 := (Chg.refl (fun _ => False) w152).then (Ext.drew _)
   obtain ⟨hp162, H⟩ := H
   obtain ⟨r160, hr161, H⟩ := callO H
   refine (spec_ZeroMask.con hp162 hr161 (R1_1.ext hB) hc1_1 (R1_2.ext hB) hc1_2).mono ?_
   rintro _ w163 ⟨rfl, e164⟩
   have O5 := O5.ext e164
   have O6 := O6.ext e164
   have O8 := O8.ext e164
   have O10 := O10.ext e164
   have O14 := O14.ext e164
   have hB := ethen hB e164
   have hS159 := hS159.then e164
   refine ⟨r160, rfl, sameBut_chg hS159, ?_⟩
   exact ⟨_, rfl, H, hB, O5, O6, (by first | exact O8 | (simp only [bC, wC, List.length_set]; exact O8)), O10, O14⟩
  have O5 := O5.ext (Ext.drew _)
  have O6 := O6.ext (Ext.drew _)
  have O8 := O8.ext (Ext.drew _)
  have O10 := O10.ext (Ext.drew _)
  have O14 := O14.ext (Ext.drew _)
  have hB := ethen hB (Ext.drew _)
  exact ⟨_, rfl, H, hB, O5, O6, (by first | exact O8 | (simp only [bC, wC, List.length_set]; exact O8)), O10, O14⟩
 rintro _ w157 ⟨b155, rfl, H, hB, O5, O6, O8, O10, O14⟩
 have H := hKK199 _ H
 try dsimp only at H ⊢
 refine brc H (fun h H => ?_) fun h H => ?_
 ·refine ⟨_, _, _, (O8.a 1), _, (O10.a 2), ?_⟩
  obtain ⟨⟨h0_169, h1_170⟩, H⟩ := H
  obtain ⟨a167, ha168, hat166⟩ := Row.at O6.row h0_169 h1_170
  refine ⟨h0_169, (by first | exact h1_170 | omega | (simp at h1_170 ⊢; omega)), a167, ha168, ?_⟩
  have hrd174 := rd_set h0_169 h1_170
  refine Own.storeAt O6 ha168 h0_169 h1_170 0 [(iv ((rd xs0 ((rd s1.Frames (wrap .i64 ((s1.Frames.length : Int) - 1))).Pc)).B))] (⟨(rd xs0 ((rd s1.Frames (wrap .i64 ((s1.Frames.length : Int) - 1))).Pc)).B, (rd r25.Frames (wrap .i64 ((s1.Frames.length : Int) - 1))).Stop, (rd r25.Frames (wrap .i64 ((s1.Frames.length : Int) - 1))).Mask⟩ : D.Frame) (by rw [hrd174]; rfl) (Nat.le_of_ble_eq_true rfl) rfl (fun w171 O6 e172 hb173 => ?_)
  rw [List.set_set] at O6
  have O5 := O5.chg e172 (fun h_ => (N6_5) _ ha168 h_.symm)
  have O8_ := O8.chg e172 (fun h_ => (N6_8) _ ha168 h_.symm)
  have O14_ := O14.chg e172 (((N6_14).symm).left ha168)
  have O8 := O8_
  have O14 := O14_
  have hB := echg hB e172 hb173
  refine ⟨_, (O8.a 0), _, _, _, (O8.a 1), _, _, _, (O8.a 2), ?_⟩
  obtain ⟨hp177, H⟩ := H
  obtain ⟨r175, hr176, H⟩ := callO H
  refine (cllA (spec_DropFrames.con hp177 hr176 (R0.ext hB) hc0 O6.row O6.le O14.row O14.le)).mono ?_
  rintro _ w178 ⟨A180, c181, A182, c183, rfl, P19, P20, e179⟩
  have N19_5 := P19.apart_old O5.lt
  have N20_5 := P20.apart_old O5.lt
  have O5 := O5.ext e179
  have O19 := P19.mono hB.size
  have O20 := P20.mono hB.size
  have hB := ethen hB e179
  refine ⟨r175.Number, trivial, A180, r175.Frames.length, c181, trivial, A182, r175.Regs.length, c183, trivial, rfl, ?_⟩
  refine stBlk O5 (o := 0) (cs' := (wC A180 c181 A182 c183 r175)) rfl rfl (Nat.le_of_ble_eq_true rfl) rfl (fun w184 O5 e185 => ?_)
  have O19 := O19.chg e185 N19_5
  have O20 := O20.chg e185 N20_5
  have hB := echg hB e185 L5
  refine ⟨_, (O5.a 0), _, _, _, (O5.a 1), _, _, _, (O5.a 2), ?_⟩
  cases hr.trans H.symm
  exact ⟨A180, c181, A182, c183, rfl, O19, O20, hB⟩
 refine ⟨_, (O8.a 0), _, _, _, (O8.a 1), _, _, _, (O8.a 2), ?_⟩
 obtain ⟨hp188, H⟩ := H
 obtain ⟨r186, hr187, H⟩ := callO H
 refine (cllA (spec_DropFrames.con hp188 hr187 (R0.ext hB) hc0 O6.row O6.le O14.row O14.le)).mono ?_
 rintro _ w189 ⟨A191, c192, A193, c194, rfl, P21, P22, e190⟩
 have N21_5 := P21.apart_old O5.lt
 have N22_5 := P22.apart_old O5.lt
 have O5 := O5.ext e190
 have O21 := P21.mono hB.size
 have O22 := P22.mono hB.size
 have hB := ethen hB e190
 refine ⟨r186.Number, trivial, A191, r186.Frames.length, c192, trivial, A193, r186.Regs.length, c194, trivial, rfl, ?_⟩
 refine stBlk O5 (o := 0) (cs' := (wC A191 c192 A193 c194 r186)) rfl rfl (Nat.le_of_ble_eq_true rfl) rfl (fun w195 O5 e196 => ?_)
 have O21 := O21.chg e196 N21_5
 have O22 := O22.chg e196 N22_5
 have hB := echg hB e196 L5
 refine ⟨_, (O5.a 0), _, _, _, (O5.a 1), _, _, _, (O5.a 2), ?_⟩
 cases hr.trans H.symm
 exact ⟨A191, c192, A193, c194, rfl, O21, O22, hB⟩
def impl_Warp_separate.vc (p0 : Addr) (A1 : OA) (n1 c1 : Nat) (w : World) (K : VK) : Prop :=
  ldS w ((p0.add 1).add 0) fun A21 n22 c23 => bcase (decide ((wrap .i64 (((n22 : Nat) : Int) + 2)) > 24)) (K (.bool false) w) (ldS w ((p0.add 1).add 0) fun A24 n25 c26 => ldS w ((p0.add 1).add 0) fun A27 n28 c29 => (idx (wrap .i64 (((n28 : Nat) : Int) - 1)) n25 A24 fun a30 => ∃ (n31 : Int), w.drew.cell? (((a30.add (((wrap .i64 (((n28 : Nat) : Int) - 1)).toNat) * 3)).add 0).add 0) = some (iv n31) ∧ ∃ (n32 : Int), w.drew.cell? (((a30.add (((wrap .i64 (((n28 : Nat) : Int) - 1)).toNat) * 3)).add 2).add 0) = some (iv n32) ∧ (∃ M33 : Nat → Prop, ∃ (n34 : Int), (¬ M33 (p0).block ∧ w.drew.drew.cell? (p0.add 0) = some (iv n34)) ∧ ∃ (A35 : OA) (n36 c37 : Nat), (¬ M33 (p0).block ∧ w.drew.drew.cell? (p0.add 1) = some (sv A35 n36 c37)) ∧ ∃ (A38 : OA) (n39 c40 : Nat), (¬ M33 (p0).block ∧ w.drew.drew.cell? (p0.add 2) = some (sv A38 n39 c40)) ∧ (idx n31 n1 A1 fun a41 => ∃ (n42 : Int), (¬ M33 (((a41.add ((n31.toNat) * 4)).add 1)).block ∧ w.drew.drew.cell? (((a41.add ((n31.toNat) * 4)).add 1).add 0) = some (iv n42)) ∧ Cl 155 #[(.agg #[(iv n34), (sv A35 n36 c37), (sv A38 n39 c40)]), (iv n42)] w.drew.drew.drew fun v43 w44 => (∃ (n45 : Int), v43 = (iv n45) ∧ SameBut M33 w.drew.drew w44 ∧ Cl 200 #[(sv A1 n1 c1), (iv n31)] w44 fun v46 w47 => (∃ (n48 : Int), v46 = (iv n48) ∧ stCells ((a30.add (((wrap .i64 (((n28 : Nat) : Int) - 1)).toNat) * 3)).add 0) [(iv n48)] 0 w47 fun w49 => (idx n31 n1 A1 fun a50 => ((∃ (A51 : OA) (n52 c53 : Nat), w49.drew.cell? ((p0.add 1).add 0) = some (sv A51 n52 c53) ∧ ((∃ (n54 : Int), w49.drew.cell? (((a50.add ((n31.toNat) * 4)).add 2).add 0) = some (iv n54) ∧ ((Run Tryz.prog (Instr.buildSlice 29 2 #[(0, (.agg #[(iv (wrap .i64 (n31 + 1))), (iv n48), (iv (bitNot .i64 n32 n45))])), (1, (.agg #[(iv n54), (iv n48), (iv n45)]))]) w49.drew fun v55 w56 => ∃ (A57 : OA) (n58 c59 : Nat), v55 = .slice A57 n58 c59 ∧ ((Run Tryz.prog (Builtin.append_ #[29, 29] 29 #[(sv A51 n52 c53), (sv A57 n58 c59)]) w56 fun v60 w61 => ∃ (A62 : OA) (n63 c64 : Nat), v60 = .slice A62 n63 c64 ∧ ((stCells (p0.add 1) [(sv A62 n63 c64)] 0 w61 fun w65 => K (.bool true) w65) ∧ True)) ∧ True)) ∧ True)) ∧ True)) ∧ (∃ (n66 : Int), w49.drew.cell? (((a50.add ((n31.toNat) * 4)).add 2).add 0) = some (iv n66) ∧ ((∃ (A67 : OA) (n68 c69 : Nat), w49.drew.cell? ((p0.add 1).add 0) = some (sv A67 n68 c69) ∧ ((Run Tryz.prog (Instr.buildSlice 29 2 #[(0, (.agg #[(iv (wrap .i64 (n31 + 1))), (iv n48), (iv (bitNot .i64 n32 n45))])), (1, (.agg #[(iv n66), (iv n48), (iv n45)]))]) w49.drew fun v70 w71 => ∃ (A72 : OA) (n73 c74 : Nat), v70 = .slice A72 n73 c74 ∧ ((Run Tryz.prog (Builtin.append_ #[29, 29] 29 #[(sv A67 n68 c69), (sv A72 n73 c74)]) w71 fun v75 w76 => ∃ (A77 : OA) (n78 c79 : Nat), v75 = .slice A77 n78 c79 ∧ ((stCells (p0.add 1) [(sv A77 n78 c79)] 0 w76 fun w80 => K (.bool true) w80) ∧ True)) ∧ True)) ∧ True)) ∧ (Run Tryz.prog (Instr.buildSlice 29 2 #[(0, (.agg #[(iv (wrap .i64 (n31 + 1))), (iv n48), (iv (bitNot .i64 n32 n45))])), (1, (.agg #[(iv n66), (iv n48), (iv n45)]))]) w49.drew fun v81 w82 => ∃ (A83 : OA) (n84 c85 : Nat), v81 = .slice A83 n84 c85 ∧ ((ldS w82 ((p0.add 1).add 0) fun A86 n87 c88 => ((Run Tryz.prog (Builtin.append_ #[29, 29] 29 #[(sv A86 n87 c88), (sv A83 n84 c85)]) w82 fun v89 w90 => ∃ (A91 : OA) (n92 c93 : Nat), v89 = .slice A91 n92 c93 ∧ ((stCells (p0.add 1) [(sv A91 n92 c93)] 0 w90 fun w94 => K (.bool true) w94) ∧ True)) ∧ True)) ∧ True)) ∧ True)) ∧ True))))))))

def impl_Warp_separate.ann : Ann := (.seq .l (.seq (.seq .l (.two (.seq .l .l) .l)) (.seq .l (.seq .l (.seq .l (.seq .l (.seq .l (.seq .each (.seq .l .l)))))))))

theorem impl_Warp_separate.con {s0 : D.Warp} {g1_ c0_1 c0_2 o1_ c1 : Nat} {A0_1 A0_2 A1 : OA} {R1_ : Array Value} {xs1 : List D.Ins} {r : Bool × D.Warp} {w : World} (hp : M.impl_Warp_separate_pre s0 xs1) (hr : r = M.impl_Warp_separate s0 xs1) (O1 : Plc w g1_ o1_ 31 R1_ (wC A0_1 c0_1 A0_2 c0_2 s0)) (O2 : Own el130 w 0 A0_1 c0_1 s0.Frames) (R0_2 : Row el3 w A0_2 s0.Regs) (hc0_2 : s0.Regs.length ≤ c0_2) (R1 : Row el89 w A1 xs1) (hc1 : xs1.length ≤ c1) (D0_2 : s0.Regs ≠ [] → ∀ g, InB A0_2 g → ¬ (fun k_ => InB A0_1 k_ ∨ k_ = g1_) g) (D1 : xs1 ≠ [] → ∀ g, InB A1 g → ¬ (fun k_ => InB A0_1 k_ ∨ k_ = g1_) g) :
    Cl 145 #[(.pointer (some (⟨g1_, o1_, none⟩ : Addr))), (sv A1 xs1.length c1)] w (fun v_ w_ => ∃ (A0_ : OA) (c0_ : Nat), v_ = (.bool r.1) ∧ Plc w_ g1_ o1_ 31 R1_ (wC A0_ c0_ A0_2 c0_2 r.2) ∧ Own el130 w_ 0 A0_ c0_ r.2.Frames ∧ Mov w A0_1 A0_ ∧ r.2.Regs = s0.Regs ∧ Chg (fun k_ => InB A0_1 k_ ∨ k_ = g1_) w w_) := by
 have H := wp.impl_Warp_separate.math s0 xs1 hp
 have hB := Chg.refl (fun k_ => InB A0_1 k_ ∨ k_ = g1_) w
 refine begK mixed Tryz.f145 ann (vc (⟨g1_, o1_, none⟩ : Addr) A1 xs1.length c1) ?_
 unfold vc
 unfold wp.impl_Warp_separate at H
 refine ⟨_, _, _, (O1.a 1), ?_⟩
 refine brc H (fun h H => ?_) fun h H => ?_
 ·cases hr.trans H.symm
  exact ⟨A0_1, c0_1, rfl, O1, (O2.mono (Nat.zero_le _)), (Mov.same _ _), rfl, hB⟩
 refine ⟨_, _, _, (O1.a 1), _, _, _, (O1.a 1), ?_⟩
 obtain ⟨⟨h0_25, h1_26⟩, H⟩ := H
 obtain ⟨a23, ha24, hat22⟩ := Row.at O2.row h0_25 h1_26
 refine ⟨h0_25, h1_26, a23, ha24, ?_⟩
 have O2 := O2.ext (Ext.drew _)
 have hat28 := Row.re O2.row ha24 h0_25 (by first | exact h1_26 | omega | (simp at h1_26 ⊢; omega))
 refine ⟨_, (hat28 0 _ rfl), ?_⟩
 have hat29 := Row.re O2.row ha24 h0_25 (by first | exact h1_26 | omega | (simp at h1_26 ⊢; omega))
 refine ⟨_, (hat29 2 _ rfl), ?_⟩
 have O1 := (O1.ext (Ext.drew _)).ext (Ext.drew _)
 have hB := (hB.then (Ext.drew _)).then (Ext.drew _)
 refine ⟨(fun _ => False), _, noM (O1.a 0), _, _, _, noM (O1.a 1), _, _, _, noM (O1.a 2), ?_⟩
 obtain ⟨⟨h0_34, h1_35⟩, H⟩ := H
 obtain ⟨a32, ha33, hat31⟩ := Row.at (R1.chgS hB D1) h0_34 h1_35
 refine ⟨h0_34, h1_35, a32, ha33, _, ⟨(fun h_ => h_), (hat31 1 _ rfl)⟩, ?_⟩
 have O1 := O1.ext (Ext.drew _)
 have O2 := (O2.ext (Ext.drew _)).ext (Ext.drew _)
 have hB := hB.then (Ext.drew _)
 have hS30 := (Chg.refl (fun _ => False) w.drew.drew).then (Ext.drew _)
 obtain ⟨hp38, H⟩ := H
 obtain ⟨r36, hr37, H⟩ := callO H
 refine (impl_Warp_zeroMask.con hp38 hr37 O2.row O2.le (R0_2.chgS hB D0_2) hc0_2).mono ?_
 rintro _ w39 ⟨rfl, e40⟩
 have hB := hB.then e40
 have hS30 := hS30.then e40
 refine ⟨r36, rfl, sameBut_chg hS30, ?_⟩
 obtain ⟨hp43, H⟩ := H
 obtain ⟨r41, hr42, H⟩ := callO H
 refine (impl_JoinOf.con hp43 hr42 (R1.chgS hB D1) hc1).mono ?_
 rintro _ w44 ⟨rfl, e45⟩
 have O1 := (O1.ext e40).ext e45
 have O2 := (O2.ext e40).ext e45
 refine ⟨r41, rfl, ?_⟩
 refine Own.stA O2 ha24 h0_25 h1_26 0 (⟨r41, (rd s0.Frames (wrap .i64 ((s0.Frames.length : Int) - 1))).Stop, (rd s0.Frames (wrap .i64 ((s0.Frames.length : Int) - 1))).Mask⟩ : D.Frame) (fun w46 P2 e47 hb48 => ?_)
 have O1 := O1.chg e47 (fun h_ => ((O2.apart_type O1.b (by decide))) _ ha24 h_.symm)
 have O1 := O1.ext (Ext.drew _)
 have O2 := P2.ext (Ext.drew _)
 have hB := ((hB.then e45).chgb e47 (Or.inr (Or.inl ⟨_, ha24, rfl⟩))).then (Ext.drew _)
 obtain ⟨⟨h0_52, h1_53⟩, H⟩ := H
 obtain ⟨a50, ha51, hat49⟩ := Row.at (R1.chgS hB D1) h0_52 h1_53
 refine ⟨h0_52, h1_53, a50, ha51, ?_⟩
 refine And.intro ?_ ?_
 ·have H := H.1
  refine ⟨_, _, _, (O1.a 1), ?_⟩
  refine and_t ?_
  refine ⟨_, (hat49 2 _ rfl), ?_⟩
  refine and_t ?_
  refine buildOwn el130 ([(⟨(wrap .i64 ((rd s0.Frames (wrap .i64 ((s0.Frames.length : Int) - 1))).Pc + 1)), r41, (bitNot .i64 ((rd s0.Frames (wrap .i64 ((s0.Frames.length : Int) - 1))).Mask) r36)⟩ : D.Frame), (⟨(rd xs1 ((rd s0.Frames (wrap .i64 ((s0.Frames.length : Int) - 1))).Pc)).B, r41, r36⟩ : D.Frame)] : List D.Frame) (fun _ => by kernel_rfl) rfl (fun A54 w55 P5 e56 => ?_)
  have O1 := O1.ext e56
  have O2 := O2.ext e56
  have O5 := P5.mono hB.size
  have hB := hB.then e56
  refine and_t ?_
  have O6 := O2
  have Mv6 := Mov.same w A0_1
  obtain ⟨hl61, H⟩ := H
  refine appOwnB slt29 slt29.under O6 O5.row (Nat.zero_le _) (by first | rfl | omega | (simp; done) | (simp; omega)) (by first | rfl | omega | (simp; done) | (simp; omega)) hl61 (fun A57 c58 w59 P6 e60 => ?_)
  have N6_1 := Apart.app (O6.apart_type O1.b (by decide)) e60 O1.lt
  have O1 := O1.app e60 (O6.apart_type O1.b (by decide))
  have hBs_ := hB.size
  have Mw6 := Mov.trans Mv6 e60.blk hBs_
  refine and_t ?_
  refine stPlc O1 (j := 1) (cs' := #[(iv s0.Number), (sv A57 ((((List.set s0.Frames ((wrap .i64 ((s0.Frames.length : Int) - 1)).toNat) (⟨r41, (rd s0.Frames (wrap .i64 ((s0.Frames.length : Int) - 1))).Stop, (rd s0.Frames (wrap .i64 ((s0.Frames.length : Int) - 1))).Mask⟩ : D.Frame)) ++ ([(⟨(wrap .i64 ((rd s0.Frames (wrap .i64 ((s0.Frames.length : Int) - 1))).Pc + 1)), r41, (bitNot .i64 ((rd s0.Frames (wrap .i64 ((s0.Frames.length : Int) - 1))).Mask) r36)⟩ : D.Frame), (⟨(rd xs1 ((rd s0.Frames (wrap .i64 ((s0.Frames.length : Int) - 1))).Pc)).B, r41, r36⟩ : D.Frame)] : List D.Frame))).length) c58), (sv A0_2 s0.Regs.length c0_2)]) rfl rfl (Nat.le_of_ble_eq_true rfl) rfl (fun w62 O1 e63 => ?_)
  have O6 := P6.chg e63 N6_1
  have hB := (hB.app e60 (fun g h_ => (mv_or Mv6 h_ (fun h_ => (Or.inl h_))))).chgb e63 (Or.inr (Or.inr rfl))
  cases hr.trans H.symm
  exact ⟨A57, c58, rfl, O1, (O6.mono (Nat.zero_le _)), Mw6, rfl, hB⟩
 refine And.intro ?_ ?_
 ·have H := H.2.1
  refine ⟨_, (hat49 2 _ rfl), ?_⟩
  refine And.intro ?_ ?_
  ·have H := H.1
   refine ⟨_, _, _, (O1.a 1), ?_⟩
   refine and_t ?_
   refine buildOwn el130 ([(⟨(wrap .i64 ((rd s0.Frames (wrap .i64 ((s0.Frames.length : Int) - 1))).Pc + 1)), r41, (bitNot .i64 ((rd s0.Frames (wrap .i64 ((s0.Frames.length : Int) - 1))).Mask) r36)⟩ : D.Frame), (⟨(rd xs1 ((rd s0.Frames (wrap .i64 ((s0.Frames.length : Int) - 1))).Pc)).B, r41, r36⟩ : D.Frame)] : List D.Frame) (fun _ => by kernel_rfl) rfl (fun A64 w65 P7 e66 => ?_)
   have O1 := O1.ext e66
   have O2 := O2.ext e66
   have O7 := P7.mono hB.size
   have hB := hB.then e66
   refine and_t ?_
   have O8 := O2
   have Mv8 := Mov.same w A0_1
   obtain ⟨hl71, H⟩ := H
   refine appOwnB slt29 slt29.under O8 O7.row (Nat.zero_le _) (by first | rfl | omega | (simp; done) | (simp; omega)) (by first | rfl | omega | (simp; done) | (simp; omega)) hl71 (fun A67 c68 w69 P8 e70 => ?_)
   have N8_1 := Apart.app (O8.apart_type O1.b (by decide)) e70 O1.lt
   have O1 := O1.app e70 (O8.apart_type O1.b (by decide))
   have hBs_ := hB.size
   have Mw8 := Mov.trans Mv8 e70.blk hBs_
   refine and_t ?_
   refine stPlc O1 (j := 1) (cs' := #[(iv s0.Number), (sv A67 ((((List.set s0.Frames ((wrap .i64 ((s0.Frames.length : Int) - 1)).toNat) (⟨r41, (rd s0.Frames (wrap .i64 ((s0.Frames.length : Int) - 1))).Stop, (rd s0.Frames (wrap .i64 ((s0.Frames.length : Int) - 1))).Mask⟩ : D.Frame)) ++ ([(⟨(wrap .i64 ((rd s0.Frames (wrap .i64 ((s0.Frames.length : Int) - 1))).Pc + 1)), r41, (bitNot .i64 ((rd s0.Frames (wrap .i64 ((s0.Frames.length : Int) - 1))).Mask) r36)⟩ : D.Frame), (⟨(rd xs1 ((rd s0.Frames (wrap .i64 ((s0.Frames.length : Int) - 1))).Pc)).B, r41, r36⟩ : D.Frame)] : List D.Frame))).length) c68), (sv A0_2 s0.Regs.length c0_2)]) rfl rfl (Nat.le_of_ble_eq_true rfl) rfl (fun w72 O1 e73 => ?_)
   have O8 := P8.chg e73 N8_1
   have hB := (hB.app e70 (fun g h_ => (mv_or Mv8 h_ (fun h_ => (Or.inl h_))))).chgb e73 (Or.inr (Or.inr rfl))
   cases hr.trans H.symm
   exact ⟨A67, c68, rfl, O1, (O8.mono (Nat.zero_le _)), Mw8, rfl, hB⟩
  refine And.intro ?_ ?_
  ·have H := H.2.1
   refine buildOwn el130 ([(⟨(wrap .i64 ((rd s0.Frames (wrap .i64 ((s0.Frames.length : Int) - 1))).Pc + 1)), r41, (bitNot .i64 ((rd s0.Frames (wrap .i64 ((s0.Frames.length : Int) - 1))).Mask) r36)⟩ : D.Frame), (⟨(rd xs1 ((rd s0.Frames (wrap .i64 ((s0.Frames.length : Int) - 1))).Pc)).B, r41, r36⟩ : D.Frame)] : List D.Frame) (fun _ => by kernel_rfl) rfl (fun A74 w75 P9 e76 => ?_)
   have O1 := O1.ext e76
   have O2 := O2.ext e76
   have O9 := P9.mono hB.size
   have hB := hB.then e76
   refine and_t ?_
   refine ⟨_, _, _, (O1.a 1), ?_⟩
   refine and_t ?_
   have O10 := O2
   have Mv10 := Mov.same w A0_1
   obtain ⟨hl81, H⟩ := H
   refine appOwnB slt29 slt29.under O10 O9.row (Nat.zero_le _) (by first | rfl | omega | (simp; done) | (simp; omega)) (by first | rfl | omega | (simp; done) | (simp; omega)) hl81 (fun A77 c78 w79 P10 e80 => ?_)
   have N10_1 := Apart.app (O10.apart_type O1.b (by decide)) e80 O1.lt
   have O1 := O1.app e80 (O10.apart_type O1.b (by decide))
   have hBs_ := hB.size
   have Mw10 := Mov.trans Mv10 e80.blk hBs_
   refine and_t ?_
   refine stPlc O1 (j := 1) (cs' := #[(iv s0.Number), (sv A77 ((((List.set s0.Frames ((wrap .i64 ((s0.Frames.length : Int) - 1)).toNat) (⟨r41, (rd s0.Frames (wrap .i64 ((s0.Frames.length : Int) - 1))).Stop, (rd s0.Frames (wrap .i64 ((s0.Frames.length : Int) - 1))).Mask⟩ : D.Frame)) ++ ([(⟨(wrap .i64 ((rd s0.Frames (wrap .i64 ((s0.Frames.length : Int) - 1))).Pc + 1)), r41, (bitNot .i64 ((rd s0.Frames (wrap .i64 ((s0.Frames.length : Int) - 1))).Mask) r36)⟩ : D.Frame), (⟨(rd xs1 ((rd s0.Frames (wrap .i64 ((s0.Frames.length : Int) - 1))).Pc)).B, r41, r36⟩ : D.Frame)] : List D.Frame))).length) c78), (sv A0_2 s0.Regs.length c0_2)]) rfl rfl (Nat.le_of_ble_eq_true rfl) rfl (fun w82 O1 e83 => ?_)
   have O10 := P10.chg e83 N10_1
   have hB := (hB.app e80 (fun g h_ => (mv_or Mv10 h_ (fun h_ => (Or.inl h_))))).chgb e83 (Or.inr (Or.inr rfl))
   cases hr.trans H.symm
   exact ⟨A77, c78, rfl, O1, (O10.mono (Nat.zero_le _)), Mw10, rfl, hB⟩
  exact trivial
 exact trivial
def impl_apply_v.vc (x0_0 x0_1 x0_2 x0_3 x1 : Int) (A2 : OA) (n2 c2 : Nat) (w : World) (K : VK) : Prop :=
  newK w (.cells #[(iv x0_0), (iv x0_1), (iv x0_2), (iv x0_3)] 89) fun g21 w22 => ldI w22 (((bx g21).add 0).add 0) fun n23 => bcase (n23 == 1) (ldI w22 (((bx g21).add 1).add 0) fun n24 => ldI w22 (((bx g21).add 2).add 0) fun n25 => (idx n24 n2 A2 fun a26 => stCells (a26.add ((n24.toNat) * 1)) [(iv n25)] 0 w22 fun w27 => K (.tuple #[]) w27)) (bcase (n23 == 2) ((∃ M28 : Nat → Prop, ldIM M28 w22 ((bx g21).add 1) 0 fun n29 => ldIM M28 w22 ((bx g21).add 2) 0 fun n30 => (idx n30 n2 A2 fun a31 => ldIM M28 w22 (a31.add ((n30.toNat) * 1)) 0 fun n32 => (idx n29 n2 A2 fun a33 => stCells (a33.add ((n29.toNat) * 1)) [(iv n32)] 0 w22.drew fun w34 => K (.tuple #[]) w34)))) (bcase (n23 == 3) ((∃ M35 : Nat → Prop, ldIM M35 w22 ((bx g21).add 1) 0 fun n36 => ldIM M35 w22 ((bx g21).add 2) 0 fun n37 => (idx n37 n2 A2 fun a38 => ldIM M35 w22 (a38.add ((n37.toNat) * 1)) 0 fun n39 => ldIM M35 w22 ((bx g21).add 3) 0 fun n40 => (idx n40 n2 A2 fun a41 => ldIM M35 w22 (a41.add ((n40.toNat) * 1)) 0 fun n42 => Cl 218 #[(iv n39), (iv n42)] w22.drew fun v43 w44 => (∃ (n45 : Int), v43 = (iv n45) ∧ SameBut M35 w22 w44 ∧ (idx n36 n2 A2 fun a46 => stCells (a46.add ((n36.toNat) * 1)) [(iv n45)] 0 w44 fun w47 => K (.tuple #[]) w47)))))) (bcase (n23 == 4) ((∃ M48 : Nat → Prop, ldIM M48 w22 ((bx g21).add 1) 0 fun n49 => ldIM M48 w22 ((bx g21).add 2) 0 fun n50 => (idx n50 n2 A2 fun a51 => ldIM M48 w22 (a51.add ((n50.toNat) * 1)) 0 fun n52 => ldIM M48 w22 ((bx g21).add 3) 0 fun n53 => (idx n53 n2 A2 fun a54 => ldIM M48 w22 (a54.add ((n53.toNat) * 1)) 0 fun n55 => Cl 232 #[(iv n52), (iv n55)] w22.drew fun v56 w57 => (∃ (n58 : Int), v56 = (iv n58) ∧ SameBut M48 w22 w57 ∧ (idx n49 n2 A2 fun a59 => stCells (a59.add ((n49.toNat) * 1)) [(iv n58)] 0 w57 fun w60 => K (.tuple #[]) w60)))))) (bcase (n23 == 5) ((∃ M61 : Nat → Prop, ldIM M61 w22 ((bx g21).add 1) 0 fun n62 => ldIM M61 w22 ((bx g21).add 2) 0 fun n63 => (idx n63 n2 A2 fun a64 => ldIM M61 w22 (a64.add ((n63.toNat) * 1)) 0 fun n65 => ldIM M61 w22 ((bx g21).add 3) 0 fun n66 => (idx n66 n2 A2 fun a67 => ldIM M61 w22 (a67.add ((n66.toNat) * 1)) 0 fun n68 => Cl 233 #[(iv n65), (iv n68)] w22.drew fun v69 w70 => (∃ (n71 : Int), v69 = (iv n71) ∧ SameBut M61 w22 w70 ∧ (idx n62 n2 A2 fun a72 => stCells (a72.add ((n62.toNat) * 1)) [(iv n71)] 0 w70 fun w73 => K (.tuple #[]) w73)))))) (bcase (n23 == 6) ((∃ M74 : Nat → Prop, ldIM M74 w22 ((bx g21).add 1) 0 fun n75 => ldIM M74 w22 ((bx g21).add 2) 0 fun n76 => (idx n76 n2 A2 fun a77 => ldIM M74 w22 (a77.add ((n76.toNat) * 1)) 0 fun n78 => ldIM M74 w22 ((bx g21).add 3) 0 fun n79 => (idx n79 n2 A2 fun a80 => ldIM M74 w22 (a80.add ((n79.toNat) * 1)) 0 fun n81 => (idx n75 n2 A2 fun a82 => stCells (a82.add ((n75.toNat) * 1)) [(iv (bitXor .i64 n78 n81))] 0 w22.drew fun w83 => K (.tuple #[]) w83))))) (bcase (n23 == 7) ((∃ M84 : Nat → Prop, ldIM M84 w22 ((bx g21).add 1) 0 fun n85 => ldIM M84 w22 ((bx g21).add 2) 0 fun n86 => (idx n86 n2 A2 fun a87 => ldIM M84 w22 (a87.add ((n86.toNat) * 1)) 0 fun n88 => ldIM M84 w22 ((bx g21).add 3) 0 fun n89 => (idx n89 n2 A2 fun a90 => ldIM M84 w22 (a90.add ((n89.toNat) * 1)) 0 fun n91 => Cl 234 #[(iv n88), (iv n91)] w22.drew fun v92 w93 => (∃ (n94 : Int), v92 = (iv n94) ∧ SameBut M84 w22 w93 ∧ (idx n85 n2 A2 fun a95 => stCells (a95.add ((n85.toNat) * 1)) [(iv n94)] 0 w93 fun w96 => K (.tuple #[]) w96)))))) (bcase (n23 == 8) (ldI w22 (((bx g21).add 1).add 0) fun n97 => (idx n97 n2 A2 fun a98 => stCells (a98.add ((n97.toNat) * 1)) [(iv x1)] 0 w22 fun w99 => K (.tuple #[]) w99)) (bcase (n23 == 9) (ldI w22 (((bx g21).add 3).add 0) fun n100 => (idx n100 n2 A2 fun a101 => ldI w22 ((a101.add ((n100.toNat) * 1)).add 0) fun n102 => bcase (n102 != 0) ((∃ M103 : Nat → Prop, ldIM M103 w22 ((bx g21).add 1) 0 fun n104 => ldIM M103 w22 ((bx g21).add 2) 0 fun n105 => (idx n105 n2 A2 fun a106 => ldIM M103 w22 (a106.add ((n105.toNat) * 1)) 0 fun n107 => (idx n104 n2 A2 fun a108 => stCells (a108.add ((n104.toNat) * 1)) [(iv n107)] 0 w22.drew fun w109 => K (.tuple #[]) w109)))) (K (.tuple #[]) w22))) (K (.tuple #[]) w22)))))))))

def impl_apply_v.ann : Ann := (.seq .l (.seq .l (.one (.seq .l (.two .l (.seq .l (.two .l (.seq .l (.two .l (.seq .l (.two .l (.seq .l (.two .l (.seq .l (.two .l (.seq .l (.two .l (.seq .l (.two .l (.seq .l (.two (.seq .l (.two .l .l)) .l)))))))))))))))))))))

theorem impl_apply_v.con {s0 : D.Ins} {x1 : Int} {xs2 : List Int} {lo2 hi2 c2 : Nat} {A2 : OA} {r : (List Int)} {w : World} (hp : M.impl_apply_v_pre s0 x1 xs2 lo2 hi2) (hr : r = M.impl_apply_v s0 x1 xs2 lo2 hi2) (O1 : Own el3 w 0 A2 c2 xs2) (hv2 : lo2 ≤ (List.take hi2 xs2).length) :
    Cl 201 #[(.agg (iC s0)), (iv x1), (sv (cutA c2 lo2 A2 1) ((List.drop lo2 (List.take hi2 xs2)).length) (c2 - lo2))] w (fun v_ w_ => v_ = (.tuple #[]) ∧ Own el3 w_ 0 A2 c2 r ∧ r.length = xs2.length ∧ Chg (InB A2) w w_) := by
 have H := wp.impl_apply_v.math s0 x1 xs2 lo2 hi2 hp
 refine begK mixed Tryz.f201 ann (vc s0.Op s0.A s0.B s0.C x1 (cutA c2 lo2 A2 1) ((List.drop lo2 (List.take hi2 xs2)).length) (c2 - lo2)) ?_
 unfold vc
 unfold wp.impl_apply_v at H
 have O2 := (O1.take hi2).drop (l := lo2) hv2
 refine newBlk (fun g3_ w21 L3 O3 e22 => ?_)
 have O1 := O1.ext e22
 have O2 := O2.ext e22
 have hB := (Chg.refl (InB A2) w).then e22
 refine ⟨_, (O3.a 0), ?_⟩
 refine brc H (fun h H => ?_) fun h H => ?_
 ·refine ⟨_, (O3.a 1), _, (O3.a 2), ?_⟩
  obtain ⟨⟨h0_26, h1_27⟩, H⟩ := H
  obtain ⟨a24, ha25, hat23⟩ := Row.at O2.row h0_26 h1_27
  refine ⟨h0_26, h1_27, a24, ha25, ?_⟩
  refine Own.storeCut (hi := hi2) O1 ha25 h0_26 h1_27 0 [(iv s0.B)] s0.B rfl (Nat.le_of_ble_eq_true rfl) rfl (fun w28 O1 e29 hb30 => ?_)
  obtain ⟨b31, hb32, hbe33⟩ := cut_blk ha25
  rw [← hbe33] at e29 hb30
  have hB := hB.chgb e29 (Or.inr ⟨_, hb32, rfl⟩)
  cases hr.trans H.symm
  exact ⟨rfl, O1, (by first | (simp only [bC, wC, List.length_set]; done) | (simp only [bC, wC, List.length_set, List.length_set]; done) | (simp; done) | (simp; omega) | omega), hB⟩
 refine brc H (fun h H => ?_) fun h H => ?_
 ·refine ⟨(fun _ => False), _, noM (O3.a 1), _, noM (O3.a 2), ?_⟩
  obtain ⟨⟨h0_38, h1_39⟩, H⟩ := H
  obtain ⟨a36, ha37, hat35⟩ := Row.at O2.row h0_38 h1_39
  refine ⟨h0_38, h1_39, a36, ha37, _, ⟨(fun h_ => h_), (hat35 0 _ rfl)⟩, ?_⟩
  obtain ⟨⟨h0_43, h1_44⟩, H⟩ := H
  obtain ⟨a41, ha42, hat40⟩ := Row.at O2.row h0_43 h1_44
  refine ⟨h0_43, h1_44, a41, ha42, ?_⟩
  have O1 := O1.ext (Ext.drew _)
  refine Own.storeCut (hi := hi2) O1 ha42 h0_43 h1_44 0 [(iv (rd (List.drop lo2 (List.take hi2 xs2)) s0.B))] (rd (List.drop lo2 (List.take hi2 xs2)) s0.B) rfl (Nat.le_of_ble_eq_true rfl) rfl (fun w45 O1 e46 hb47 => ?_)
  obtain ⟨b48, hb49, hbe50⟩ := cut_blk ha42
  rw [← hbe50] at e46 hb47
  have hB := (hB.then (Ext.drew _)).chgb e46 (Or.inr ⟨_, hb49, rfl⟩)
  cases hr.trans H.symm
  exact ⟨rfl, O1, (by first | (simp only [bC, wC, List.length_set]; done) | (simp only [bC, wC, List.length_set, List.length_set]; done) | (simp; done) | (simp; omega) | omega), hB⟩
 refine brc H (fun h H => ?_) fun h H => ?_
 ·refine ⟨(fun _ => False), ?_⟩
  have hBz := hB
  have Z2 := O2
  refine ⟨_, noM (O3.a 1), _, noM (O3.a 2), ?_⟩
  obtain ⟨⟨h0_75, h1_76⟩, H⟩ := H
  obtain ⟨a73, ha74, hat72⟩ := Row.at O2.row h0_75 h1_76
  refine ⟨h0_75, h1_76, a73, ha74, _, ⟨(fun h_ => h_), (hat72 0 _ rfl)⟩, _, noM (O3.a 3), ?_⟩
  obtain ⟨⟨h0_80, h1_81⟩, H⟩ := H
  obtain ⟨a78, ha79, hat77⟩ := Row.at O2.row h0_80 h1_81
  refine ⟨h0_80, h1_81, a78, ha79, _, ⟨(fun h_ => h_), (hat77 0 _ rfl)⟩, ?_⟩
  have O1 := O1.ext (Ext.drew _)
  have hB := hB.then (Ext.drew _)
  have hS51 := (Chg.refl (fun _ => False) w21).then (Ext.drew _)
  obtain ⟨r82, hr83, H⟩ := callO H
  refine (impl_AddWords.con hr83 ).mono ?_
  rintro _ w85 ⟨rfl, e86⟩
  have O1 := O1.ext e86
  have hS51 := hS51.then e86
  refine ⟨r82, rfl, sameBut_chg hS51, ?_⟩
  obtain ⟨⟨h0_90, h1_91⟩, H⟩ := H
  obtain ⟨a88, ha89, hat87⟩ := Row.at Z2.row h0_90 h1_91
  refine ⟨h0_90, h1_91, a88, ha89, ?_⟩
  refine Own.storeCut (hi := hi2) O1 ha89 h0_90 h1_91 0 [(iv r82)] r82 rfl (Nat.le_of_ble_eq_true rfl) rfl (fun w92 O1 e93 hb94 => ?_)
  obtain ⟨b95, hb96, hbe97⟩ := cut_blk ha89
  rw [← hbe97] at e93 hb94
  have hB := (hB.then e86).chgb e93 (Or.inr ⟨_, hb96, rfl⟩)
  cases hr.trans H.symm
  exact ⟨rfl, O1, (by first | (simp only [bC, wC, List.length_set]; done) | (simp only [bC, wC, List.length_set, List.length_set]; done) | (simp; done) | (simp; omega) | omega), hB⟩
 refine brc H (fun h H => ?_) fun h H => ?_
 ·refine ⟨(fun _ => False), ?_⟩
  have hBz := hB
  have Z2 := O2
  refine ⟨_, noM (O3.a 1), _, noM (O3.a 2), ?_⟩
  obtain ⟨⟨h0_122, h1_123⟩, H⟩ := H
  obtain ⟨a120, ha121, hat119⟩ := Row.at O2.row h0_122 h1_123
  refine ⟨h0_122, h1_123, a120, ha121, _, ⟨(fun h_ => h_), (hat119 0 _ rfl)⟩, _, noM (O3.a 3), ?_⟩
  obtain ⟨⟨h0_127, h1_128⟩, H⟩ := H
  obtain ⟨a125, ha126, hat124⟩ := Row.at O2.row h0_127 h1_128
  refine ⟨h0_127, h1_128, a125, ha126, _, ⟨(fun h_ => h_), (hat124 0 _ rfl)⟩, ?_⟩
  have O1 := O1.ext (Ext.drew _)
  have hB := hB.then (Ext.drew _)
  have hS98 := (Chg.refl (fun _ => False) w21).then (Ext.drew _)
  obtain ⟨r129, hr130, H⟩ := callO H
  refine (impl_SubWords.con hr130 ).mono ?_
  rintro _ w132 ⟨rfl, e133⟩
  have O1 := O1.ext e133
  have hS98 := hS98.then e133
  refine ⟨r129, rfl, sameBut_chg hS98, ?_⟩
  obtain ⟨⟨h0_137, h1_138⟩, H⟩ := H
  obtain ⟨a135, ha136, hat134⟩ := Row.at Z2.row h0_137 h1_138
  refine ⟨h0_137, h1_138, a135, ha136, ?_⟩
  refine Own.storeCut (hi := hi2) O1 ha136 h0_137 h1_138 0 [(iv r129)] r129 rfl (Nat.le_of_ble_eq_true rfl) rfl (fun w139 O1 e140 hb141 => ?_)
  obtain ⟨b142, hb143, hbe144⟩ := cut_blk ha136
  rw [← hbe144] at e140 hb141
  have hB := (hB.then e133).chgb e140 (Or.inr ⟨_, hb143, rfl⟩)
  cases hr.trans H.symm
  exact ⟨rfl, O1, (by first | (simp only [bC, wC, List.length_set]; done) | (simp only [bC, wC, List.length_set, List.length_set]; done) | (simp; done) | (simp; omega) | omega), hB⟩
 refine brc H (fun h H => ?_) fun h H => ?_
 ·refine ⟨(fun _ => False), ?_⟩
  have hBz := hB
  have Z2 := O2
  refine ⟨_, noM (O3.a 1), _, noM (O3.a 2), ?_⟩
  obtain ⟨⟨h0_169, h1_170⟩, H⟩ := H
  obtain ⟨a167, ha168, hat166⟩ := Row.at O2.row h0_169 h1_170
  refine ⟨h0_169, h1_170, a167, ha168, _, ⟨(fun h_ => h_), (hat166 0 _ rfl)⟩, _, noM (O3.a 3), ?_⟩
  obtain ⟨⟨h0_174, h1_175⟩, H⟩ := H
  obtain ⟨a172, ha173, hat171⟩ := Row.at O2.row h0_174 h1_175
  refine ⟨h0_174, h1_175, a172, ha173, _, ⟨(fun h_ => h_), (hat171 0 _ rfl)⟩, ?_⟩
  have O1 := O1.ext (Ext.drew _)
  have hB := hB.then (Ext.drew _)
  have hS145 := (Chg.refl (fun _ => False) w21).then (Ext.drew _)
  obtain ⟨r176, hr177, H⟩ := callO H
  refine (impl_MulWords.con hr177 ).mono ?_
  rintro _ w179 ⟨rfl, e180⟩
  have O1 := O1.ext e180
  have hS145 := hS145.then e180
  refine ⟨r176, rfl, sameBut_chg hS145, ?_⟩
  obtain ⟨⟨h0_184, h1_185⟩, H⟩ := H
  obtain ⟨a182, ha183, hat181⟩ := Row.at Z2.row h0_184 h1_185
  refine ⟨h0_184, h1_185, a182, ha183, ?_⟩
  refine Own.storeCut (hi := hi2) O1 ha183 h0_184 h1_185 0 [(iv r176)] r176 rfl (Nat.le_of_ble_eq_true rfl) rfl (fun w186 O1 e187 hb188 => ?_)
  obtain ⟨b189, hb190, hbe191⟩ := cut_blk ha183
  rw [← hbe191] at e187 hb188
  have hB := (hB.then e180).chgb e187 (Or.inr ⟨_, hb190, rfl⟩)
  cases hr.trans H.symm
  exact ⟨rfl, O1, (by first | (simp only [bC, wC, List.length_set]; done) | (simp only [bC, wC, List.length_set, List.length_set]; done) | (simp; done) | (simp; omega) | omega), hB⟩
 refine brc H (fun h H => ?_) fun h H => ?_
 ·refine ⟨(fun _ => False), _, noM (O3.a 1), _, noM (O3.a 2), ?_⟩
  obtain ⟨⟨h0_196, h1_197⟩, H⟩ := H
  obtain ⟨a194, ha195, hat193⟩ := Row.at O2.row h0_196 h1_197
  refine ⟨h0_196, h1_197, a194, ha195, _, ⟨(fun h_ => h_), (hat193 0 _ rfl)⟩, _, noM (O3.a 3), ?_⟩
  obtain ⟨⟨h0_201, h1_202⟩, H⟩ := H
  obtain ⟨a199, ha200, hat198⟩ := Row.at O2.row h0_201 h1_202
  refine ⟨h0_201, h1_202, a199, ha200, _, ⟨(fun h_ => h_), (hat198 0 _ rfl)⟩, ?_⟩
  obtain ⟨⟨h0_206, h1_207⟩, H⟩ := H
  obtain ⟨a204, ha205, hat203⟩ := Row.at O2.row h0_206 h1_207
  refine ⟨h0_206, h1_207, a204, ha205, ?_⟩
  have O1 := O1.ext (Ext.drew _)
  refine Own.storeCut (hi := hi2) O1 ha205 h0_206 h1_207 0 [(iv (bitXor .i64 (rd (List.drop lo2 (List.take hi2 xs2)) s0.B) (rd (List.drop lo2 (List.take hi2 xs2)) s0.C)))] (bitXor .i64 (rd (List.drop lo2 (List.take hi2 xs2)) s0.B) (rd (List.drop lo2 (List.take hi2 xs2)) s0.C)) rfl (Nat.le_of_ble_eq_true rfl) rfl (fun w208 O1 e209 hb210 => ?_)
  obtain ⟨b211, hb212, hbe213⟩ := cut_blk ha205
  rw [← hbe213] at e209 hb210
  have hB := (hB.then (Ext.drew _)).chgb e209 (Or.inr ⟨_, hb212, rfl⟩)
  cases hr.trans H.symm
  exact ⟨rfl, O1, (by first | (simp only [bC, wC, List.length_set]; done) | (simp only [bC, wC, List.length_set, List.length_set]; done) | (simp; done) | (simp; omega) | omega), hB⟩
 refine brc H (fun h H => ?_) fun h H => ?_
 ·refine ⟨(fun _ => False), ?_⟩
  have hBz := hB
  have Z2 := O2
  refine ⟨_, noM (O3.a 1), _, noM (O3.a 2), ?_⟩
  obtain ⟨⟨h0_238, h1_239⟩, H⟩ := H
  obtain ⟨a236, ha237, hat235⟩ := Row.at O2.row h0_238 h1_239
  refine ⟨h0_238, h1_239, a236, ha237, _, ⟨(fun h_ => h_), (hat235 0 _ rfl)⟩, _, noM (O3.a 3), ?_⟩
  obtain ⟨⟨h0_243, h1_244⟩, H⟩ := H
  obtain ⟨a241, ha242, hat240⟩ := Row.at O2.row h0_243 h1_244
  refine ⟨h0_243, h1_244, a241, ha242, _, ⟨(fun h_ => h_), (hat240 0 _ rfl)⟩, ?_⟩
  have O1 := O1.ext (Ext.drew _)
  have hB := hB.then (Ext.drew _)
  have hS214 := (Chg.refl (fun _ => False) w21).then (Ext.drew _)
  obtain ⟨r245, hr246, H⟩ := callO H
  refine (impl_LessWords.con hr246 ).mono ?_
  rintro _ w248 ⟨rfl, e249⟩
  have O1 := O1.ext e249
  have hS214 := hS214.then e249
  refine ⟨r245, rfl, sameBut_chg hS214, ?_⟩
  obtain ⟨⟨h0_253, h1_254⟩, H⟩ := H
  obtain ⟨a251, ha252, hat250⟩ := Row.at Z2.row h0_253 h1_254
  refine ⟨h0_253, h1_254, a251, ha252, ?_⟩
  refine Own.storeCut (hi := hi2) O1 ha252 h0_253 h1_254 0 [(iv r245)] r245 rfl (Nat.le_of_ble_eq_true rfl) rfl (fun w255 O1 e256 hb257 => ?_)
  obtain ⟨b258, hb259, hbe260⟩ := cut_blk ha252
  rw [← hbe260] at e256 hb257
  have hB := (hB.then e249).chgb e256 (Or.inr ⟨_, hb259, rfl⟩)
  cases hr.trans H.symm
  exact ⟨rfl, O1, (by first | (simp only [bC, wC, List.length_set]; done) | (simp only [bC, wC, List.length_set, List.length_set]; done) | (simp; done) | (simp; omega) | omega), hB⟩
 refine brc H (fun h H => ?_) fun h H => ?_
 ·refine ⟨_, (O3.a 1), ?_⟩
  obtain ⟨⟨h0_264, h1_265⟩, H⟩ := H
  obtain ⟨a262, ha263, hat261⟩ := Row.at O2.row h0_264 h1_265
  refine ⟨h0_264, h1_265, a262, ha263, ?_⟩
  refine Own.storeCut (hi := hi2) O1 ha263 h0_264 h1_265 0 [(iv x1)] x1 rfl (Nat.le_of_ble_eq_true rfl) rfl (fun w266 O1 e267 hb268 => ?_)
  obtain ⟨b269, hb270, hbe271⟩ := cut_blk ha263
  rw [← hbe271] at e267 hb268
  have hB := hB.chgb e267 (Or.inr ⟨_, hb270, rfl⟩)
  cases hr.trans H.symm
  exact ⟨rfl, O1, (by first | (simp only [bC, wC, List.length_set]; done) | (simp only [bC, wC, List.length_set, List.length_set]; done) | (simp; done) | (simp; omega) | omega), hB⟩
 refine brc H (fun h H => ?_) fun h H => ?_
 ·refine ⟨_, (O3.a 3), ?_⟩
  obtain ⟨⟨h0_275, h1_276⟩, H⟩ := H
  obtain ⟨a273, ha274, hat272⟩ := Row.at O2.row h0_275 h1_276
  refine ⟨h0_275, h1_276, a273, ha274, _, (hat272 0 _ rfl), ?_⟩
  refine brc H (fun h H => ?_) fun h H => ?_
  ·refine ⟨(fun _ => False), _, noM (O3.a 1), _, noM (O3.a 2), ?_⟩
   obtain ⟨⟨h0_281, h1_282⟩, H⟩ := H
   obtain ⟨a279, ha280, hat278⟩ := Row.at O2.row h0_281 h1_282
   refine ⟨h0_281, h1_282, a279, ha280, _, ⟨(fun h_ => h_), (hat278 0 _ rfl)⟩, ?_⟩
   obtain ⟨⟨h0_286, h1_287⟩, H⟩ := H
   obtain ⟨a284, ha285, hat283⟩ := Row.at O2.row h0_286 h1_287
   refine ⟨h0_286, h1_287, a284, ha285, ?_⟩
   have O1 := O1.ext (Ext.drew _)
   refine Own.storeCut (hi := hi2) O1 ha285 h0_286 h1_287 0 [(iv (rd (List.drop lo2 (List.take hi2 xs2)) s0.B))] (rd (List.drop lo2 (List.take hi2 xs2)) s0.B) rfl (Nat.le_of_ble_eq_true rfl) rfl (fun w288 O1 e289 hb290 => ?_)
   obtain ⟨b291, hb292, hbe293⟩ := cut_blk ha285
   rw [← hbe293] at e289 hb290
   have hB := (hB.then (Ext.drew _)).chgb e289 (Or.inr ⟨_, hb292, rfl⟩)
   cases hr.trans H.symm
   exact ⟨rfl, O1, (by first | (simp only [bC, wC, List.length_set]; done) | (simp only [bC, wC, List.length_set, List.length_set]; done) | (simp; done) | (simp; omega) | omega), hB⟩
  cases hr.trans H.symm
  exact ⟨rfl, O1, rfl, hB⟩
 cases hr.trans H.symm
 exact ⟨rfl, O1, rfl, hB⟩
def impl_Warp_advance.vc (p0 : Addr) (A1 : OA) (n1 c1 : Nat) (w : World) (K : VK) : Prop :=
  ldS w ((p0.add 1).add 0) fun A21 n22 c23 => ldS w ((p0.add 1).add 0) fun A24 n25 c26 => (idx (wrap .i64 (((n25 : Nat) : Int) - 1)) n22 A21 fun a27 => ∃ (n28 : Int), w.drew.cell? (((a27.add (((wrap .i64 (((n25 : Nat) : Int) - 1)).toNat) * 3)).add 0).add 0) = some (iv n28) ∧ (idx n28 n1 A1 fun a29 => ∃ (n30 : Int), w.drew.cell? ((a29.add ((n28.toNat) * 4)).add 0) = some (iv n30) ∧ ∃ (n31 : Int), w.drew.cell? ((a29.add ((n28.toNat) * 4)).add 1) = some (iv n31) ∧ ∃ (n32 : Int), w.drew.cell? ((a29.add ((n28.toNat) * 4)).add 2) = some (iv n32) ∧ ∃ (n33 : Int), w.drew.cell? ((a29.add ((n28.toNat) * 4)).add 3) = some (iv n33) ∧ newK w.drew (.cells #[(iv 0), (iv 0), (iv 0), (iv 0)] 89) fun g34 w35 => stCells (bx g34) [(iv n30), (iv n31), (iv n32), (iv n33)] 0 w35 fun w36 => ldI w36 (((a27.add (((wrap .i64 (((n25 : Nat) : Int) - 1)).toNat) * 3)).add 2).add 0) fun n37 => Cl 170 #[(iv n37)] w36 fun v38 w39 => (∃ (A40 : OA) (n41 c42 : Nat), v38 = (sv A40 n41 c42) ∧ LoopT (σ := Int × Unit) (fun z43 w44 next45 => bcase (decide (z43.1 < ((n41 : Nat) : Int))) ((idx z43.1 n41 A40 fun a46 => ldI w44 ((a46.add ((z43.1.toNat) * 1)).add 0) fun n47 => (∃ M48 : Nat → Prop, ldIM M48 w44 (bx g34) 0 fun n49 => ldIM M48 w44 (bx g34) 1 fun n50 => ldIM M48 w44 (bx g34) 2 fun n51 => ldIM M48 w44 (bx g34) 3 fun n52 => ldIM M48 w44 (p0.add 0) 0 fun n53 => ldIM M48 w44 p0 0 fun n54 => ldSM M48 w44 p0 1 fun A55 n56 c57 => ldSM M48 w44 p0 2 fun A58 n59 c60 => Cl 171 #[(.agg #[(iv n54), (sv A55 n56 c57), (sv A58 n59 c60)]), (iv n47)] w44.drew fun v61 w62 => (∃ (A63 : OA) (n64 c65 : Nat), v61 = (sv A63 n64 c65) ∧ SameBut M48 w44 w62 ∧ Cl 201 #[(.agg #[(iv n49), (iv n50), (iv n51), (iv n52)]), (iv (wrap .i64 ((wrap .i64 (n53 * 8)) + n47))), (sv A63 n64 c65)] w62 fun v66 w67 => (v66 = (.tuple #[]) ∧ next45 ((wrap .i64 (z43.1 + 1)), ()) w67))))) (ldI w44 (((bx g34).add 0).add 0) fun n68 => bcase (n68 == 12) (stCells ((a27.add (((wrap .i64 (((n25 : Nat) : Int) - 1)).toNat) * 3)).add 0) [(iv ((n1 : Nat) : Int))] 0 w44 fun w69 => K (.tuple #[]) w69) (JoinT (σ := Bool × Unit) (fun J70 => (∃ M71 : Nat → Prop, ldIM M71 w44 ((bx g34).add 0) 0 fun n72 => bcase (n72 == 11) (J70 (true, ()) w44.drew) (ldIM M71 w44 ((bx g34).add 0) 0 fun n73 => bcase (n73 == 10) (ldIM M71 w44 p0 0 fun n74 => ldSM M71 w44 p0 1 fun A75 n76 c77 => ldSM M71 w44 p0 2 fun A78 n79 c80 => ldIM M71 w44 ((bx g34).add 1) 0 fun n81 => ldIM M71 w44 ((a27.add (((wrap .i64 (((n25 : Nat) : Int) - 1)).toNat) * 3)).add 2) 0 fun n82 => Cl 155 #[(.agg #[(iv n74), (sv A75 n76 c77), (sv A78 n79 c80)]), (iv n81)] w44.drew fun v83 w84 => (∃ (n85 : Int), v83 = (iv n85) ∧ SameBut M71 w44 w84 ∧ J70 ((n85 == n82), ()) w84)) (J70 (false, ()) w44.drew)))) fun z86 w87 => bcase z86.1 (ldI w87 (((bx g34).add 2).add 0) fun n88 => stCells ((a27.add (((wrap .i64 (((n25 : Nat) : Int) - 1)).toNat) * 3)).add 0) [(iv n88)] 0 w87 fun w89 => K (.tuple #[]) w89) (ldI w87 (((a27.add (((wrap .i64 (((n25 : Nat) : Int) - 1)).toNat) * 3)).add 0).add 0) fun n90 => stCells ((a27.add (((wrap .i64 (((n25 : Nat) : Int) - 1)).toNat) * 3)).add 0) [(iv (wrap .i64 (n90 + 1)))] 0 w87 fun w91 => K (.tuple #[]) w91)))) (0, ()) w39)))

def impl_Warp_advance.ann : Ann := (.seq .l (.seq .l (.seq (.seq .l (.one (.loop [(32, .int .i64)] (.seq .l (.seq (.two .l .l) (.seq (.one (.seq .l .l)) .l)))))) (.one (.seq .l (.two .l (.cut [(67, .bool)] .l (.two .l .l))))))))

theorem impl_Warp_advance.con {s0 r : D.Warp} {g1_ c0_1 c0_2 o1_ c1 : Nat} {A0_1 A0_2 A1 : OA} {R1_ : Array Value} {xs1 : List D.Ins} {w : World} (hp : M.impl_Warp_advance_pre s0 xs1) (hr : r = M.impl_Warp_advance s0 xs1) (O1 : Plc w g1_ o1_ 31 R1_ (wC A0_1 c0_1 A0_2 c0_2 s0)) (O2 : Own el130 w 0 A0_1 c0_1 s0.Frames) (O3 : Own el3 w 0 A0_2 c0_2 s0.Regs) (R1 : Row el89 w A1 xs1) (hc1 : xs1.length ≤ c1) (D1 : xs1 ≠ [] → ∀ g, InB A1 g → ¬ (fun k_ => InB A0_1 k_ ∨ InB A0_2 k_ ∨ k_ = g1_) g) :
    Cl 146 #[(.pointer (some (⟨g1_, o1_, none⟩ : Addr))), (sv A1 xs1.length c1)] w (fun v_ w_ => ∃ (A0_ : OA) (c0_ : Nat) (A1_ : OA) (c1_ : Nat), v_ = (.tuple #[]) ∧ Plc w_ g1_ o1_ 31 R1_ (wC A0_ c0_ A1_ c1_ r) ∧ Own el130 w_ 0 A0_ c0_ r.Frames ∧ Mov w A0_1 A0_ ∧ Own el3 w_ 0 A1_ c1_ r.Regs ∧ Mov w A0_2 A1_ ∧ Chg (fun k_ => InB A0_1 k_ ∨ InB A0_2 k_ ∨ k_ = g1_) w w_) := by
 have H := wp.impl_Warp_advance.math s0 xs1 hp
 refine begK mixed Tryz.f146 ann (vc (⟨g1_, o1_, none⟩ : Addr) A1 xs1.length c1) ?_
 unfold vc
 unfold wp.impl_Warp_advance at H
 refine ⟨_, _, _, (O1.a 1), _, _, _, (O1.a 1), ?_⟩
 obtain ⟨⟨h0_25, h1_26⟩, H⟩ := H
 obtain ⟨a23, ha24, hat22⟩ := Row.at O2.row h0_25 h1_26
 refine ⟨h0_25, h1_26, a23, ha24, ?_⟩
 have O1 := O1.ext (Ext.drew _)
 have O2 := O2.ext (Ext.drew _)
 have O3 := O3.ext (Ext.drew _)
 have hB := (Chg.refl (fun k_ => InB A0_1 k_ ∨ InB A0_2 k_ ∨ k_ = g1_) w).then (Ext.drew _)
 have hat27 := Row.re O2.row ha24 h0_25 (by first | exact h1_26 | omega | (simp at h1_26 ⊢; omega))
 refine ⟨_, (hat27 0 _ rfl), ?_⟩
 obtain ⟨⟨h0_31, h1_32⟩, H⟩ := H
 obtain ⟨a29, ha30, hat28⟩ := Row.at (R1.chgS hB D1) h0_31 h1_32
 refine ⟨h0_31, h1_32, a29, ha30, _, (hat28 0 _ rfl), _, (hat28 1 _ rfl), _, (hat28 2 _ rfl), _, (hat28 3 _ rfl), ?_⟩
 refine newBlk (fun g5_ w33 L5 P5 e34 => ?_)
 have N1_5 := O1.ne L5
 have N2_5 := O2.apart_new L5
 have N3_5 := O3.apart_new L5
 have O1 := O1.ext e34
 have O3 := O3.ext e34
 have O5 := P5
 have L5 := Nat.le_trans hB.size L5
 refine stBlk O5 (o := 0) (cs' := #[(iv ((rd xs1 ((rd s0.Frames (wrap .i64 ((s0.Frames.length : Int) - 1))).Pc)).Op)), (iv ((rd xs1 ((rd s0.Frames (wrap .i64 ((s0.Frames.length : Int) - 1))).Pc)).A)), (iv ((rd xs1 ((rd s0.Frames (wrap .i64 ((s0.Frames.length : Int) - 1))).Pc)).B)), (iv ((rd xs1 ((rd s0.Frames (wrap .i64 ((s0.Frames.length : Int) - 1))).Pc)).C))]) rfl rfl (Nat.le_of_ble_eq_true rfl) rfl (fun w35 O5 e36 => ?_)
 have O1_ := O1.chg e36 N1_5
 have O2 := (O2.ext e34).chg e36 N2_5
 have O3_ := O3.chg e36 N3_5
 have O3 := O3_
 have hB := (hB.then e34).chgb e36 (Or.inl L5)
 have hat37 := Row.re O2.row ha24 h0_25 (by first | exact h1_26 | omega | (simp at h1_26 ⊢; omega))
 refine ⟨_, (hat37 2 _ rfl), ?_⟩
 obtain ⟨r38, hr39, H⟩ := callO H
 refine (impl_LanesOf.con hr39 ).mono ?_
 rintro _ w41 ⟨A43, c44, rfl, P6, e42⟩
 have N3_6 := aN O3 P6
 have O1 := O1_.ext e42
 have O2 := O2.ext e42
 have O3 := O3.ext e42
 have O5 := O5.ext e42
 have O6 := P6.mono hB.size
 have hB := hB.then e42
 refine ⟨A43, r38.length, c44, rfl, ?_⟩
 obtain ⟨J70, ⟨m122, hJ121⟩, hS71⟩ := H
 refine ⟨fun m_ z_ w_ => ∃ (i66 : Int) (xs67 : List Int), z_ = (i66, ()) ∧ J70 m_ (i66, xs67, ()) ∧ Chg (fun k_ => InB A0_1 k_ ∨ InB A0_2 k_ ∨ k_ = g1_) w w_ ∧ Own el3 w_ 0 A0_2 c0_2 xs67 ∧ s0.Regs.length = xs67.length ∧ Plc w_ g1_ o1_ 31 R1_ (wC A0_1 c0_1 A0_2 c0_2 s0) ∧ Own el130 w_ 0 A0_1 c0_1 s0.Frames ∧ Blk w_ g5_ 89 #[(iv ((rd xs1 ((rd s0.Frames (wrap .i64 ((s0.Frames.length : Int) - 1))).Pc)).Op)), (iv ((rd xs1 ((rd s0.Frames (wrap .i64 ((s0.Frames.length : Int) - 1))).Pc)).A)), (iv ((rd xs1 ((rd s0.Frames (wrap .i64 ((s0.Frames.length : Int) - 1))).Pc)).B)), (iv ((rd xs1 ((rd s0.Frames (wrap .i64 ((s0.Frames.length : Int) - 1))).Pc)).C))] ∧ Own el3 w_ w.heap.size A43 c44 r38, ⟨m122, 0, s0.Regs, rfl, hJ121, hB, O3, (by first | rfl | assumption | omega | (simp; done) | (simp; omega) | (simp; assumption)), O1, O2, O5, O6⟩, ?_⟩
 rintro m69 _ w73 ⟨i66, xs67, rfl, hJ123, hB, O3, hn68, O1, O2, O5, O6⟩
 have H := hS71 m69 _ hJ123
 clear hS71 hJ123
 try dsimp only at H ⊢
 refine brc H (fun h H => ?_) fun h H => ?_
 ·obtain ⟨⟨h0_77, h1_78⟩, H⟩ := H
  obtain ⟨a75, ha76, hat74⟩ := Row.at O6.row h0_77 h1_78
  refine ⟨h0_77, h1_78, a75, ha76, _, (hat74 0 _ rfl), (fun _ => False), _, noM (O5.a 0), _, noM (O5.a 1), _, noM (O5.a 2), _, noM (O5.a 3), _, noM (O1.a 0), _, noM (O1.a 0), _, _, _, noM (O1.a 1), _, _, _, noM (O1.a 2), ?_⟩
  have O1 := O1.ext (Ext.drew _)
  have O2 := O2.ext (Ext.drew _)
  have O3 := O3.ext (Ext.drew _)
  have O5 := O5.ext (Ext.drew _)
  have O6 := O6.ext (Ext.drew _)
  have hB := hB.then (Ext.drew _)
  have hS79 := (Chg.refl (fun _ => False) w73).then (Ext.drew _)
  obtain ⟨hp80, H⟩ := H
  refine (cllArgs (by first | (simp only [bC, wC, List.length_set, ← hn68]; done) | (simp; done)) (impl_Warp_lane.con hp80 O2.row O2.le O3.row O3.le)).mono ?_
  rintro _ w81 ⟨rfl, e82⟩
  have O1 := O1.ext e82
  have O2 := O2.ext e82
  have O3 := O3.ext e82
  have hS79 := hS79.then e82
  have hv8_ : ((wrap .i64 ((rd r38 i66) * 4)).toNat) ≤ (List.take ((wrap .i64 ((wrap .i64 ((rd r38 i66) + 1)) * 4)).toNat) xs67).length := impl_Warp_lane.cut hp80
  refine ⟨(cutA c0_2 ((wrap .i64 ((rd r38 i66) * 4)).toNat) A0_2 1), (List.drop ((wrap .i64 ((rd r38 i66) * 4)).toNat) (List.take ((wrap .i64 ((wrap .i64 ((rd r38 i66) + 1)) * 4)).toNat) xs67)).length, (c0_2 - ((wrap .i64 ((rd r38 i66) * 4)).toNat)), rfl, sameBut_chg hS79, ?_⟩
  obtain ⟨hp85, H⟩ := H
  obtain ⟨r83, hr84, H⟩ := callO H
  refine (impl_apply_v.con hp85 hr84 (O3.mono (Nat.zero_le _)) hv8_).mono ?_
  rintro _ w86 ⟨rfl, Q3, hl88, e87⟩
  have O1 := O1.chgS e87 ((O3.apart_type O1.b (by decide))).inb
  have O2 := O2.chgS e87 ((Own.apart2_type O2 O3 (by decide))).inb
  have O5 := (O5.ext e82).chgS e87 (N3_5).inb
  have O6 := (O6.ext e82).chgS e87 ((N3_6).symm).inb
  have hB := (hB.then e82).chg e87 (fun g h_ => (Or.inr (Or.inr (Or.inl h_))))
  have O3 := Q3
  refine ⟨rfl, ?_⟩
  obtain ⟨m89, hm90, hJ91⟩ := H
  exact ⟨m89, hm90, _, r83, rfl, hJ91, hB, O3, (by first | rfl | assumption | omega | (simp; done) | (simp; omega) | (simp; assumption)), (by first | exact O1 | (simp only [bC, wC, List.length_set, ← hn68, hl88]; exact O1)), O2, O5, O6⟩
 refine ⟨_, (O5.a 0), ?_⟩
 refine brc H (fun h H => ?_) fun h H => ?_
 ·refine Own.stA O2 ha24 h0_25 h1_26 0 (⟨(xs1.length : Int), (rd s0.Frames (wrap .i64 ((s0.Frames.length : Int) - 1))).Stop, (rd s0.Frames (wrap .i64 ((s0.Frames.length : Int) - 1))).Mask⟩ : D.Frame) (fun w92 P2 e93 hb94 => ?_)
  have O1 := O1.chg e93 (fun h_ => ((O2.apart_type O1.b (by decide))) _ ha24 h_.symm)
  have O3 := O3.chg e93 (((Own.apart2_type O3 O2 (by decide))).left ha24)
  have hB := hB.chgb e93 (Or.inr (Or.inl ⟨_, ha24, rfl⟩))
  have O2 := P2
  cases hr.trans H.symm
  exact ⟨A0_1, c0_1, A0_2, c0_2, rfl, (by first | exact O1 | (simp only [bC, wC, List.length_set, ← hn68]; exact O1)), (O2.mono (Nat.zero_le _)), (Mov.same _ _), (O3.mono (Nat.zero_le _)), (Mov.same _ _), hB⟩
 obtain ⟨K117, hKK117, H⟩ := joinP_out H
 refine ⟨fun z_ w_ => ∃ (b95 : Bool), z_ = (b95, ()) ∧ K117 (b95, ()) ∧ Chg (fun k_ => InB A0_1 k_ ∨ InB A0_2 k_ ∨ k_ = g1_) w w_ ∧ Plc w_ g1_ o1_ 31 R1_ (wC A0_1 c0_1 A0_2 c0_2 s0) ∧ Own el130 w_ 0 A0_1 c0_1 s0.Frames ∧ Own el3 w_ 0 A0_2 c0_2 xs67 ∧ Blk w_ g5_ 89 #[(iv ((rd xs1 ((rd s0.Frames (wrap .i64 ((s0.Frames.length : Int) - 1))).Pc)).Op)), (iv ((rd xs1 ((rd s0.Frames (wrap .i64 ((s0.Frames.length : Int) - 1))).Pc)).A)), (iv ((rd xs1 ((rd s0.Frames (wrap .i64 ((s0.Frames.length : Int) - 1))).Pc)).B)), (iv ((rd xs1 ((rd s0.Frames (wrap .i64 ((s0.Frames.length : Int) - 1))).Pc)).C))], ?_, ?_⟩
 ·refine ⟨(fun _ => False), _, noM (O5.a 0), ?_⟩
  refine brc H (fun h H => ?_) fun h H => ?_
  ·have O1 := O1.ext (Ext.drew _)
   have O2 := O2.ext (Ext.drew _)
   have O3 := O3.ext (Ext.drew _)
   have O5 := O5.ext (Ext.drew _)
   have hB := hB.then (Ext.drew _)
   exact ⟨true, rfl, H, hB, (by first | exact O1 | (simp only [bC, wC, List.length_set, ← hn68]; exact O1)), O2, O3, O5⟩
  refine ⟨_, noM (O5.a 0), ?_⟩
  refine brc H (fun h H => ?_) fun h H => ?_
  ·refine ⟨_, noM (O1.a 0), _, _, _, noM (O1.a 1), _, _, _, noM (O1.a 2), _, noM (O5.a 1), ?_⟩
   have hat100 := Row.re O2.row ha24 h0_25 (by first | exact h1_26 | omega | (simp at h1_26 ⊢; omega))
   refine ⟨_, ⟨(fun h_ => h_), (hat100 2 _ rfl)⟩, ?_⟩
   have O1 := O1.ext (Ext.drew _)
   have O2 := O2.ext (Ext.drew _)
   have O3 := O3.ext (Ext.drew _)
   have O5 := O5.ext (Ext.drew _)
   have hB := hB.then (Ext.drew _)
   have hS99 := (Chg.refl (fun _ => False) w73).then (Ext.drew _)
   obtain ⟨hp103, H⟩ := H
   obtain ⟨r101, hr102, H⟩ := callO H
   refine (cllArgs (by first | (simp only [bC, wC, List.length_set, ← hn68]; done) | (simp; done)) (impl_Warp_zeroMask.con hp103 hr102 O2.row O2.le O3.row O3.le)).mono ?_
   rintro _ w104 ⟨rfl, e105⟩
   have O1 := O1.ext e105
   have O2 := O2.ext e105
   have O3 := O3.ext e105
   have O5 := O5.ext e105
   have hB := hB.then e105
   have hS99 := hS99.then e105
   refine ⟨r101, rfl, sameBut_chg hS99, ?_⟩
   exact ⟨_, rfl, H, hB, (by first | exact O1 | (simp only [bC, wC, List.length_set, ← hn68]; exact O1)), O2, O3, O5⟩
  have O1 := O1.ext (Ext.drew _)
  have O2 := O2.ext (Ext.drew _)
  have O3 := O3.ext (Ext.drew _)
  have O5 := O5.ext (Ext.drew _)
  have hB := hB.then (Ext.drew _)
  exact ⟨_, rfl, H, hB, (by first | exact O1 | (simp only [bC, wC, List.length_set, ← hn68]; exact O1)), O2, O3, O5⟩
 rintro _ w97 ⟨b95, rfl, H, hB, O1, O2, O3, O5⟩
 have H := hKK117 _ H
 try dsimp only at H ⊢
 refine brc H (fun h H => ?_) fun h H => ?_
 ·refine ⟨_, (O5.a 2), ?_⟩
  refine Own.stA O2 ha24 h0_25 h1_26 0 (⟨(rd xs1 ((rd s0.Frames (wrap .i64 ((s0.Frames.length : Int) - 1))).Pc)).B, (rd s0.Frames (wrap .i64 ((s0.Frames.length : Int) - 1))).Stop, (rd s0.Frames (wrap .i64 ((s0.Frames.length : Int) - 1))).Mask⟩ : D.Frame) (fun w108 P2 e109 hb110 => ?_)
  have O1 := O1.chg e109 (fun h_ => ((O2.apart_type O1.b (by decide))) _ ha24 h_.symm)
  have O3 := O3.chg e109 (((Own.apart2_type O3 O2 (by decide))).left ha24)
  have hB := hB.chgb e109 (Or.inr (Or.inl ⟨_, ha24, rfl⟩))
  have O2 := P2
  cases hr.trans H.symm
  exact ⟨A0_1, c0_1, A0_2, c0_2, rfl, (by first | exact O1 | (simp only [bC, wC, List.length_set, ← hn68]; exact O1)), (O2.mono (Nat.zero_le _)), (Mov.same _ _), (O3.mono (Nat.zero_le _)), (Mov.same _ _), hB⟩
 have hat111 := Row.re O2.row ha24 h0_25 (by first | exact h1_26 | omega | (simp at h1_26 ⊢; omega))
 refine ⟨_, (hat111 0 _ rfl), ?_⟩
 refine Own.stA O2 ha24 h0_25 h1_26 0 (⟨(wrap .i64 ((rd s0.Frames (wrap .i64 ((s0.Frames.length : Int) - 1))).Pc + 1)), (rd s0.Frames (wrap .i64 ((s0.Frames.length : Int) - 1))).Stop, (rd s0.Frames (wrap .i64 ((s0.Frames.length : Int) - 1))).Mask⟩ : D.Frame) (fun w112 P2 e113 hb114 => ?_)
 have O1 := O1.chg e113 (fun h_ => ((O2.apart_type O1.b (by decide))) _ ha24 h_.symm)
 have O3 := O3.chg e113 (((Own.apart2_type O3 O2 (by decide))).left ha24)
 have hB := hB.chgb e113 (Or.inr (Or.inl ⟨_, ha24, rfl⟩))
 have O2 := P2
 cases hr.trans H.symm
 exact ⟨A0_1, c0_1, A0_2, c0_2, rfl, (by first | exact O1 | (simp only [bC, wC, List.length_set, ← hn68]; exact O1)), (O2.mono (Nat.zero_le _)), (Mov.same _ _), (O3.mono (Nat.zero_le _)), (Mov.same _ _), hB⟩
def impl_Warp_drop.vc (p0 : Addr) (x1 : Int) (w : World) (K : VK) : Prop :=
  LoopT (σ := Unit) (fun z21 w22 next23 => ldS w22 ((p0.add 1).add 0) fun A24 n25 c26 => bcase (decide (((n25 : Nat) : Int) > 0)) ((∃ M27 : Nat → Prop, ldSM M27 w22 (p0.add 1) 0 fun A28 n29 c30 => ldSM M27 w22 (p0.add 1) 0 fun A31 n32 c33 => (idx (wrap .i64 (((n32 : Nat) : Int) - 1)) n29 A28 fun a34 => ldIM M27 w22 (a34.add (((wrap .i64 (((n32 : Nat) : Int) - 1)).toNat) * 3)) 0 fun n35 => ldIM M27 w22 (a34.add (((wrap .i64 (((n32 : Nat) : Int) - 1)).toNat) * 3)) 1 fun n36 => ldIM M27 w22 (a34.add (((wrap .i64 (((n32 : Nat) : Int) - 1)).toNat) * 3)) 2 fun n37 => newK w22.drew (.cells #[(iv 0), (iv 0), (iv 0)] 130) fun g38 w39 => SameBut M27 w22 w39 ∧ stCells (bx g38) [(iv n35), (iv n36), (iv n37)] 0 w39 fun w40 => JoinT (σ := Unit) (fun J41 => ldI w40 (((bx g38).add 0).add 0) fun n42 => ldI w40 (((bx g38).add 1).add 0) fun n43 => bcase (n42 != n43) (ldI w40 (((bx g38).add 0).add 0) fun n44 => bcase (n44 != x1) (K (.tuple #[]) w40) (J41 () w40)) (J41 () w40)) fun z45 w46 => (∃ M47 : Nat → Prop, ldSM M47 w46 (p0.add 1) 0 fun A48 n49 c50 => ldSM M47 w46 (p0.add 1) 0 fun A51 n52 c53 => ((0 : Int) ≤ (wrap .i64 (((n52 : Nat) : Int) - 1)) ∧ (wrap .i64 (((n52 : Nat) : Int) - 1)) ≤ ((c50 : Nat) : Int) ∧ stCells (p0.add 1) [(sv A48 ((wrap .i64 (((n52 : Nat) : Int) - 1)).toNat) c50)] 0 w46.drew fun w54 => next23 () w54))))) (K (.tuple #[]) w22)) () w

def impl_Warp_drop.ann : Ann := (.one (.loop [] (.seq (.seq .l (.two .l .l)) (.one (.seq .l (.cut [] (.seq .l (.two .l .l)) .l))))))

theorem impl_Warp_drop.con {s0 r : D.Warp} {g1_ c0_1 c0_2 o1_ : Nat} {A0_1 A0_2 : OA} {R1_ : Array Value} {x1 : Int} {w : World} (hp : M.impl_Warp_drop_pre s0 x1) (hr : r = M.impl_Warp_drop s0 x1) (O1 : Plc w g1_ o1_ 31 R1_ (wC A0_1 c0_1 A0_2 c0_2 s0)) (O2 : Own el130 w 0 A0_1 c0_1 s0.Frames) (R0_2 : Row el3 w A0_2 s0.Regs) (hc0_2 : s0.Regs.length ≤ c0_2) (D0_2 : s0.Regs ≠ [] → ∀ g, InB A0_2 g → ¬ (fun k_ => InB A0_1 k_ ∨ k_ = g1_) g) :
    Cl 147 #[(.pointer (some (⟨g1_, o1_, none⟩ : Addr))), (iv x1)] w (fun v_ w_ => ∃ (A0_ : OA) (c0_ : Nat), v_ = (.tuple #[]) ∧ Plc w_ g1_ o1_ 31 R1_ (wC A0_ c0_ A0_2 c0_2 r) ∧ Own el130 w_ 0 A0_ c0_ r.Frames ∧ Mov w A0_1 A0_ ∧ r.Regs = s0.Regs ∧ Chg (fun k_ => InB A0_1 k_ ∨ k_ = g1_) w w_) := by
 have H := wp.impl_Warp_drop.math s0 x1 hp
 have hB := Chg.refl (fun k_ => InB A0_1 k_ ∨ k_ = g1_) w
 refine begK mixed Tryz.f147 ann (vc (⟨g1_, o1_, none⟩ : Addr) x1) ?_
 unfold vc
 unfold wp.impl_Warp_drop at H
 obtain ⟨J77, ⟨m109, hJ108⟩, hS78⟩ := H
 refine ⟨fun m_ z_ w_ => ∃ (i72 : Int) (xs73 : List D.Frame) (A74 : OA) (c75 : Nat), z_ = (()) ∧ J77 m_ (i72, xs73, ()) ∧ Chg (fun k_ => InB A0_1 k_ ∨ k_ = g1_) w w_ ∧ Plc w_ g1_ o1_ 31 R1_ #[(iv i72), (sv A74 xs73.length c75), (sv A0_2 s0.Regs.length c0_2)] ∧ Own el130 w_ 0 A74 c75 xs73 ∧ Mov w A0_1 A74, ⟨m109, s0.Number, s0.Frames, A0_1, c0_1, rfl, hJ108, hB, O1, O2, (Mov.same _ _)⟩, ?_⟩
 rintro m76 _ w80 ⟨i72, xs73, A74, c75, rfl, hJ110, hB, O1, O8, Mv8⟩
 have H := hS78 m76 _ hJ110
 clear hS78 hJ110
 try dsimp only at H ⊢
 refine ⟨_, _, _, (O1.a 1), ?_⟩
 refine brc H (fun h H => ?_) fun h H => ?_
 ·refine ⟨(fun _ => False), _, _, _, noM (O1.a 1), _, _, _, noM (O1.a 1), ?_⟩
  obtain ⟨⟨h0_85, h1_86⟩, H⟩ := H
  obtain ⟨a83, ha84, hat82⟩ := Row.at O8.row h0_85 h1_86
  refine ⟨h0_85, h1_86, a83, ha84, _, ⟨(fun h_ => h_), (hat82 0 _ rfl)⟩, _, ⟨(fun h_ => h_), (hat82 1 _ rfl)⟩, _, ⟨(fun h_ => h_), (hat82 2 _ rfl)⟩, ?_⟩
  have O1 := O1.ext (Ext.drew _)
  have O8 := O8.ext (Ext.drew _)
  have hB := hB.then (Ext.drew _)
  refine newBlk (fun g9_ w87 L9 P9 e88 => ?_)
  have N1_9 := O1.ne L9
  have N8_9 := O8.apart_new L9
  have O8 := O8.ext e88
  have O9 := P9
  have L9 := Nat.le_trans hB.size L9
  have hS81 := ((Chg.refl (fun _ => False) w80).then (Ext.drew _)).then e88
  refine ⟨sameBut_chg hS81, ?_⟩
  refine stBlk O9 (o := 0) (cs' := #[(iv ((rd xs73 (wrap .i64 ((xs73.length : Int) - 1))).Pc)), (iv ((rd xs73 (wrap .i64 ((xs73.length : Int) - 1))).Stop)), (iv ((rd xs73 (wrap .i64 ((xs73.length : Int) - 1))).Mask))]) rfl rfl (Nat.le_of_ble_eq_true rfl) rfl (fun w89 O9 e90 => ?_)
  have O1 := (O1.ext e88).chg e90 N1_9
  have O8_ := O8.chg e90 N8_9
  have O8 := O8_
  have hB := (hB.then e88).chgb e90 (Or.inl L9)
  obtain ⟨K105, hKK105, H⟩ := joinP_out H
  refine ⟨fun z_ w_ => z_ = (()) ∧ K105 (()) ∧ Chg (fun k_ => InB A0_1 k_ ∨ k_ = g1_) w w_ ∧ Plc w_ g1_ o1_ 31 R1_ #[(iv i72), (sv A74 xs73.length c75), (sv A0_2 s0.Regs.length c0_2)] ∧ Own el130 w_ 0 A74 c75 xs73, ?_, ?_⟩
  ·refine ⟨_, (O9.a 0), _, (O9.a 1), ?_⟩
   refine brc H (fun h H => ?_) fun h H => ?_
   ·refine ⟨_, (O9.a 0), ?_⟩
    refine brc H (fun h H => ?_) fun h H => ?_
    ·cases hr.trans H.symm
     exact ⟨A74, c75, rfl, O1, (O8.mono (Nat.zero_le _)), Mv8, rfl, hB⟩
    exact ⟨rfl, H, hB, O1, O8⟩
   exact ⟨rfl, H, hB, O1, O8⟩
  rintro _ w92 ⟨rfl, H, hB, O1, O8⟩
  have H := hKK105 _ H
  try dsimp only at H ⊢
  refine ⟨(fun _ => False), _, _, _, noM (O1.a 1), _, _, _, noM (O1.a 1), ?_⟩
  obtain ⟨⟨hh97, hh98⟩, H⟩ := H
  refine and_assoc.1 ⟨⟨hh97, Int.le_trans hh98 (Int.ofNat_le.2 O8.le)⟩, ?_⟩
  rw [show ((wrap .i64 ((xs73.length : Int) - 1)).toNat) = ((List.take ((wrap .i64 ((xs73.length : Int) - 1)).toNat) xs73)).length from by first | rfl | (simp; done) | (simp; omega)]
  have O10 := (O8.take ((wrap .i64 ((xs73.length : Int) - 1)).toNat))
  have O1 := O1.ext (Ext.drew _)
  have O8 := O8.ext (Ext.drew _)
  refine stPlc O1 (j := 1) (cs' := #[(iv i72), (sv A74 (((List.take ((wrap .i64 ((xs73.length : Int) - 1)).toNat) xs73)).length) c75), (sv A0_2 s0.Regs.length c0_2)]) rfl rfl (Nat.le_of_ble_eq_true rfl) rfl (fun w99 P1 e100 => ?_)
  have O10 := (O10.ext (Ext.drew _)).chg e100 (O8.apart_type O1.b (by decide))
  have hB := (hB.then (Ext.drew _)).chgb e100 (Or.inr (Or.inr rfl))
  have O1 := P1
  obtain ⟨m101, hm102, hJ103⟩ := H
  exact ⟨m101, hm102, i72, _, A74, c75, rfl, hJ103, hB, O1, O10, Mv8⟩
 cases hr.trans H.symm
 exact ⟨A74, c75, rfl, O1, (O8.mono (Nat.zero_le _)), Mv8, rfl, hB⟩
def impl_Warp_pass.vc (p0 : Addr) (A1 : OA) (n1 c1 : Nat) (w : World) (K : VK) : Prop :=
  (∃ M22 : Nat → Prop, ldSM M22 w (p0.add 1) 0 fun A23 n24 c25 => bcase (((n24 : Nat) : Int) == 0) (K (.bool false) w.drew) (ldSM M22 w (p0.add 1) 0 fun A26 n27 c28 => ldSM M22 w (p0.add 1) 0 fun A29 n30 c31 => (idx (wrap .i64 (((n30 : Nat) : Int) - 1)) n27 A26 fun a32 => ldIM M22 w ((a32.add (((wrap .i64 (((n30 : Nat) : Int) - 1)).toNat) * 3)).add 0) 0 fun n33 => (idx n33 n1 A1 fun a34 => ldIM M22 w (a34.add ((n33.toNat) * 4)) 0 fun n35 => ldIM M22 w (a34.add ((n33.toNat) * 4)) 1 fun n36 => ldIM M22 w (a34.add ((n33.toNat) * 4)) 2 fun n37 => ldIM M22 w (a34.add ((n33.toNat) * 4)) 3 fun n38 => Cl 143 #[(.agg #[(iv n35), (iv n36), (iv n37), (iv n38)])] w.drew fun v39 w40 => (∃ (b41 : Bool), v39 = (.bool b41) ∧ SameBut M22 w w40 ∧ bcase (!b41) (K (.bool false) w40) (ldI w40 (p0.add 0) fun n42 => ldS w40 (p0.add 1) fun A43 n44 c45 => ldS w40 (p0.add 2) fun A46 n47 c48 => Cl 93 #[(.agg #[(iv n42), (sv A43 n44 c45), (sv A46 n47 c48)]), (sv A1 n1 c1)] w40 fun v49 w50 => (∃ (b51 : Bool), v49 = (.bool b51) ∧ bcase b51 (Cl 145 #[(.pointer (some p0)), (sv A1 n1 c1)] w50 fun v52 w53 => (∃ (b54 : Bool), v52 = (.bool b54) ∧ bcase (!b54) (K (.bool false) w53) (Cl 147 #[(.pointer (some p0)), (iv ((n1 : Nat) : Int))] w53 fun v55 w56 => (v55 = (.tuple #[]) ∧ K (.bool true) w56)))) (Cl 146 #[(.pointer (some p0)), (sv A1 n1 c1)] w50 fun v57 w58 => (v57 = (.tuple #[]) ∧ Cl 147 #[(.pointer (some p0)), (iv ((n1 : Nat) : Int))] w58 fun v59 w60 => (v59 = (.tuple #[]) ∧ K (.bool true) w60))))))))))

def impl_Warp_pass.ann : Ann := (.seq .l (.seq (.seq .l (.two (.seq .l .l) .l)) (.seq (.seq .l (.two (.seq .l (.two (.seq .l .l) .l)) .l)) (.seq .l (.seq .l .l)))))

theorem impl_Warp_pass.con {s0 : D.Warp} {g1_ c0_1 c0_2 o1_ c1 : Nat} {A0_1 A0_2 A1 : OA} {R1_ : Array Value} {xs1 : List D.Ins} {r : Bool × D.Warp} {w : World} (hp : M.impl_Warp_pass_pre s0 xs1) (hr : r = M.impl_Warp_pass s0 xs1) (O1 : Plc w g1_ o1_ 31 R1_ (wC A0_1 c0_1 A0_2 c0_2 s0)) (O2 : Own el130 w 0 A0_1 c0_1 s0.Frames) (O3 : Own el3 w 0 A0_2 c0_2 s0.Regs) (R1 : Row el89 w A1 xs1) (hc1 : xs1.length ≤ c1) (D1 : xs1 ≠ [] → ∀ g, InB A1 g → ¬ (fun k_ => InB A0_1 k_ ∨ InB A0_2 k_ ∨ k_ = g1_) g) :
    Cl 76 #[(.pointer (some (⟨g1_, o1_, none⟩ : Addr))), (sv A1 xs1.length c1)] w (fun v_ w_ => ∃ (A0_ : OA) (c0_ : Nat) (A1_ : OA) (c1_ : Nat), v_ = (.bool r.1) ∧ Plc w_ g1_ o1_ 31 R1_ (wC A0_ c0_ A1_ c1_ r.2) ∧ Own el130 w_ 0 A0_ c0_ r.2.Frames ∧ Mov w A0_1 A0_ ∧ Own el3 w_ 0 A1_ c1_ r.2.Regs ∧ Mov w A0_2 A1_ ∧ Chg (fun k_ => InB A0_1 k_ ∨ InB A0_2 k_ ∨ k_ = g1_) w w_) := by
 have H := wp.impl_Warp_pass.math s0 xs1 hp
 have hB := Chg.refl (fun k_ => InB A0_1 k_ ∨ InB A0_2 k_ ∨ k_ = g1_) w
 refine begK mixed Tryz.f76 ann (vc (⟨g1_, o1_, none⟩ : Addr) A1 xs1.length c1) ?_
 unfold vc
 unfold wp.impl_Warp_pass at H
 refine ⟨(fun _ => False), _, _, _, noM (O1.a 1), ?_⟩
 refine brc H (fun h H => ?_) fun h H => ?_
 ·have O1 := O1.ext (Ext.drew _)
  have O2 := O2.ext (Ext.drew _)
  have O3 := O3.ext (Ext.drew _)
  have hB := hB.then (Ext.drew _)
  cases hr.trans H.symm
  exact ⟨A0_1, c0_1, A0_2, c0_2, rfl, O1, (O2.mono (Nat.zero_le _)), (Mov.same _ _), (O3.mono (Nat.zero_le _)), (Mov.same _ _), hB⟩
 refine ⟨_, _, _, noM (O1.a 1), _, _, _, noM (O1.a 1), ?_⟩
 obtain ⟨⟨h0_25, h1_26⟩, H⟩ := H
 obtain ⟨a23, ha24, hat22⟩ := Row.at O2.row h0_25 h1_26
 refine ⟨h0_25, h1_26, a23, ha24, _, ⟨(fun h_ => h_), (hat22 0 _ rfl)⟩, ?_⟩
 obtain ⟨⟨h0_30, h1_31⟩, H⟩ := H
 obtain ⟨a28, ha29, hat27⟩ := Row.at (R1.chgS hB D1) h0_30 h1_31
 refine ⟨h0_30, h1_31, a28, ha29, _, ⟨(fun h_ => h_), (hat27 0 _ rfl)⟩, _, ⟨(fun h_ => h_), (hat27 1 _ rfl)⟩, _, ⟨(fun h_ => h_), (hat27 2 _ rfl)⟩, _, ⟨(fun h_ => h_), (hat27 3 _ rfl)⟩, ?_⟩
 have O1 := O1.ext (Ext.drew _)
 have O2 := O2.ext (Ext.drew _)
 have O3 := O3.ext (Ext.drew _)
 have hB := hB.then (Ext.drew _)
 have hS21 := (Chg.refl (fun _ => False) w).then (Ext.drew _)
 obtain ⟨r32, hr33, H⟩ := callO H
 refine (impl_IsLocal.con hr33 ).mono ?_
 rintro _ w35 ⟨rfl, e36⟩
 have O1 := O1.ext e36
 have O2 := O2.ext e36
 have O3 := O3.ext e36
 have hB := hB.then e36
 have hS21 := hS21.then e36
 refine ⟨r32, rfl, sameBut_chg hS21, ?_⟩
 refine brc H (fun h H => ?_) fun h H => ?_
 ·cases hr.trans H.symm
  exact ⟨A0_1, c0_1, A0_2, c0_2, rfl, O1, (O2.mono (Nat.zero_le _)), (Mov.same _ _), (O3.mono (Nat.zero_le _)), (Mov.same _ _), hB⟩
 refine ⟨_, (O1.a 0), _, _, _, (O1.a 1), _, _, _, (O1.a 2), ?_⟩
 obtain ⟨hp39, H⟩ := H
 obtain ⟨r37, hr38, H⟩ := callO H
 refine (impl_Warp_splits.con hp39 hr38 O2.row O2.le O3.row O3.le (R1.chgS hB D1) hc1).mono ?_
 rintro _ w40 ⟨rfl, e41⟩
 have O1 := O1.ext e41
 have O2 := O2.ext e41
 have O3 := O3.ext e41
 have hB := hB.then e41
 refine ⟨r37, rfl, ?_⟩
 refine brc H (fun h H => ?_) fun h H => ?_
 ·obtain ⟨hp44, H⟩ := H
  obtain ⟨r42, hr43, H⟩ := callO H
  refine (impl_Warp_separate.con hp44 hr43 O1 (O2.mono (Nat.zero_le _)) O3.row O3.le (R1.chgS hB D1) hc1 (fun _ => (fun g h_ => (fun hS_ => hS_.elim (((Own.apart2_type O3 O2 (by decide))).inb g h_) ((box_inb (O3.apart_type O1.b (by decide))) g h_)))) (fun hx_ => (fun g h_ => (fun hS_ => hS_.elim ((fun g h_ hS_ => D1 hx_ g h_ (Or.inl hS_)) g h_) ((fun g h_ hS_ => D1 hx_ g h_ (Or.inr (Or.inr hS_))) g h_))))).mono ?_
  rintro _ w45 ⟨A47, c48, rfl, Q1, Q5, Mv5, hq49, e46⟩
  simp only [bC, wC, hq49] at Q1
  have Mw5 := Mov.trans (Mov.same w A0_1) Mv5 hB.size
  have O3 := O3.chgS e46 (fun g h_ => (fun hS_ => hS_.elim (((Own.apart2_type O3 O2 (by decide))).inb g h_) ((box_inb (O3.apart_type O1.b (by decide))) g h_)))
  have hB := hB.chg e46 (fun g => (fun hS_ => hS_.elim ((fun g h_ => (Or.inr (Or.inl h_))) g) ((fun g h_ => Or.inr (Or.inr (Or.inr h_))) g)))
  have O1 := Q1
  have O5 := Q5
  refine ⟨r42.1, rfl, ?_⟩
  refine brc H (fun h H => ?_) fun h H => ?_
  ·cases hr.trans H.symm
   exact ⟨A47, c48, A0_2, c0_2, rfl, O1, (O5.mono (Nat.zero_le _)), Mw5, (O3.mono (Nat.zero_le _)), (Mov.same _ _), hB⟩
  obtain ⟨hp52, H⟩ := H
  obtain ⟨r50, hr51, H⟩ := callO H
  refine (impl_Warp_drop.con hp52 hr51 O1 (O5.mono (Nat.zero_le _)) O3.row O3.le (fun _ => (fun g h_ => (fun hS_ => hS_.elim (((Own.apart2_type O3 O5 (by decide))).inb g h_) ((box_inb (O3.apart_type O1.b (by decide))) g h_))))).mono ?_
  rintro _ w53 ⟨A55, c56, rfl, Q1, Q6, Mv6, hq57, e54⟩
  simp only [bC, wC, hq57] at Q1
  have Mw6 := Mov.trans Mw5 Mv6 hB.size
  have O3 := O3.chgS e54 (fun g h_ => (fun hS_ => hS_.elim (((Own.apart2_type O3 O5 (by decide))).inb g h_) ((box_inb (O3.apart_type O1.b (by decide))) g h_)))
  have hB := hB.chg e54 (fun g => (fun hS_ => hS_.elim ((fun g h_ => (mv_or Mw5 h_ (fun h_ => (Or.inl h_)))) g) ((fun g h_ => Or.inr (Or.inr (Or.inr h_))) g)))
  have O1 := Q1
  have O6 := Q6
  refine ⟨rfl, ?_⟩
  cases hr.trans H.symm
  exact ⟨A55, c56, A0_2, c0_2, rfl, O1, (O6.mono (Nat.zero_le _)), Mw6, (O3.mono (Nat.zero_le _)), (Mov.same _ _), hB⟩
 obtain ⟨hp61, H⟩ := H
 obtain ⟨r59, hr60, H⟩ := callO H
 refine (impl_Warp_advance.con hp61 hr60 O1 (O2.mono (Nat.zero_le _)) (O3.mono (Nat.zero_le _)) (R1.chgS hB D1) hc1 (fun hx_ => (fun g h_ => (fun hS_ => hS_.elim ((fun g h_ hS_ => D1 hx_ g h_ (Or.inl hS_)) g h_) (fun hS_ => hS_.elim ((fun g h_ hS_ => D1 hx_ g h_ (Or.inr (Or.inl hS_))) g h_) ((fun g h_ hS_ => D1 hx_ g h_ (Or.inr (Or.inr hS_))) g h_)))))).mono ?_
 rintro _ w62 ⟨A64, c65, A66, c67, rfl, Q1, Q7, Mv7, Q8, Mv8, e63⟩
 have Mw7 := Mov.trans (Mov.same w A0_1) Mv7 hB.size
 have Mw8 := Mov.trans (Mov.same w A0_2) Mv8 hB.size
 have hB := hB.chg e63 (fun g => (fun hS_ => hS_.elim ((fun g h_ => (Or.inr (Or.inl h_))) g) (fun hS_ => hS_.elim ((fun g h_ => (Or.inr (Or.inr (Or.inl h_)))) g) ((fun g h_ => Or.inr (Or.inr (Or.inr h_))) g))))
 have O1 := Q1
 have O7 := Q7
 have O8 := Q8
 refine ⟨rfl, ?_⟩
 obtain ⟨hp70, H⟩ := H
 obtain ⟨r68, hr69, H⟩ := callO H
 refine (impl_Warp_drop.con hp70 hr69 O1 (O7.mono (Nat.zero_le _)) O8.row O8.le (fun _ => (fun g h_ => (fun hS_ => hS_.elim (((Own.apart2_type O8 O7 (by decide))).inb g h_) ((box_inb (O8.apart_type O1.b (by decide))) g h_))))).mono ?_
 rintro _ w71 ⟨A73, c74, rfl, Q1, Q9, Mv9, hq75, e72⟩
 simp only [bC, wC, hq75] at Q1
 have Mw9 := Mov.trans Mw7 Mv9 hB.size
 have O8 := O8.chgS e72 (fun g h_ => (fun hS_ => hS_.elim (((Own.apart2_type O8 O7 (by decide))).inb g h_) ((box_inb (O8.apart_type O1.b (by decide))) g h_)))
 have hB := hB.chg e72 (fun g => (fun hS_ => hS_.elim ((fun g h_ => (mv_or Mw7 h_ (fun h_ => (Or.inl h_)))) g) ((fun g h_ => Or.inr (Or.inr (Or.inr h_))) g)))
 have O1 := Q1
 have O9 := Q9
 refine ⟨rfl, ?_⟩
 cases hr.trans H.symm
 exact ⟨A73, c74, A66, c67, rfl, O1, (O9.mono (Nat.zero_le _)), Mw9, (O8.mono (Nat.zero_le _)), Mw8, hB⟩
def spec_l30Memory.vc (A0_0 : OA) (n0_0 c0_0 : Nat) (A0_1 : OA) (n0_1 c0_1 : Nat) (A0_2 : OA) (n0_2 c0_2 : Nat) (x0_3 x0_4 x1 : Int) (w : World) (K : VK) : Prop :=
  newK w (.cells (vB A0_0 n0_0 c0_0 A0_1 n0_1 c0_1 A0_2 n0_2 c0_2 x0_3 x0_4) 59) fun g21 w22 => newK w22 (.cells zC 59) fun g23 w24 => ldB w24 (bx g21) fun A25 n26 c27 A28 n29 c30 A31 n32 c33 n34 n35 => Cl 164 #[(.agg (vB A25 n26 c27 A28 n29 c30 A31 n32 c33 n34 n35)), (iv x1)] w24 fun v36 w37 => (∃ (n38 : Int), True ∧ ∃ (n39 : Int), True ∧ ∃ (n40 : Int), True ∧ ∃ (n41 : Int), True ∧ v36 = (.agg #[(iv n38), (iv n39), (iv n40), (iv n41)]) ∧ newK w37 (.cells #[(iv 0), (iv 0), (iv 0), (iv 0)] 89) fun g42 w43 => stCells (bx g42) [(iv n38), (iv n39), (iv n40), (iv n41)] 0 w43 fun w44 => ldS w44 (((bx g21).add 1).add 0) fun A45 n46 c47 => (idx x1 n46 A45 fun a48 => ldI w44 ((a48.add ((x1.toNat) * 3)).add 0) fun n49 => ldS w44 ((a48.add ((x1.toNat) * 3)).add 1) fun A50 n51 c52 => ldS w44 ((a48.add ((x1.toNat) * 3)).add 2) fun A53 n54 c55 => Cl 88 #[(.agg #[(iv n49), (sv A50 n51 c52), (sv A53 n54 c55)])] w44 fun v56 w57 => (∃ (n58 : Int), v56 = (iv n58) ∧ ldS w57 (((bx g21).add 1).add 0) fun A59 n60 c61 => (idx x1 n60 A59 fun a62 => ldS w57 (((a62.add ((x1.toNat) * 3)).add 2).add 0) fun A63 n64 c65 => LoopT (σ := Int × Unit) (fun z66 w67 next68 => bcase (decide (z66.1 < 8)) (Cl 165 #[(iv n58), (iv z66.1)] w67 fun v69 w70 => (∃ (b71 : Bool), v69 = (.bool b71) ∧ bcase (!b71) (next68 ((wrap .i64 (z66.1 + 1)), ()) w70) (ldI w70 (((bx g42).add 1).add 0) fun n72 => (idx (wrap .i64 ((wrap .i64 (z66.1 * 4)) + n72)) n64 A63 fun a73 => ldI w70 ((a73.add (((wrap .i64 ((wrap .i64 (z66.1 * 4)) + n72)).toNat) * 1)).add 0) fun n74 => ldI w70 (((bx g42).add 2).add 0) fun n75 => (idx (wrap .i64 ((wrap .i64 (z66.1 * 4)) + n75)) n64 A63 fun a76 => ldI w70 ((a76.add (((wrap .i64 ((wrap .i64 (z66.1 * 4)) + n75)).toNat) * 1)).add 0) fun n77 => ldI w70 (((bx g42).add 0).add 0) fun n78 => bcase (n78 == 13) ((∃ M79 : Nat → Prop, ldIM M79 w70 ((bx g42).add 1) 0 fun n80 => ldSM M79 w70 ((bx g21).add 2) 0 fun A81 n82 c83 => ((32 : Int) ≠ 0 ∧ (idx (Int.tmod n77 32) n82 A81 fun a84 => ldIM M79 w70 (a84.add (((Int.tmod n77 32).toNat) * 1)) 0 fun n85 => (idx (wrap .i64 ((wrap .i64 (z66.1 * 4)) + n80)) n64 A63 fun a86 => stCells (a86.add (((wrap .i64 ((wrap .i64 (z66.1 * 4)) + n80)).toNat) * 1)) [(iv n85)] 0 w70.drew fun w87 => next68 ((wrap .i64 (z66.1 + 1)), ()) w87))))) (bcase (n78 == 14) (ldS w70 (((bx g21).add 2).add 0) fun A88 n89 c90 => ((32 : Int) ≠ 0 ∧ (idx (Int.tmod n74 32) n89 A88 fun a91 => stCells (a91.add (((Int.tmod n74 32).toNat) * 1)) [(iv n77)] 0 w70 fun w92 => next68 ((wrap .i64 (z66.1 + 1)), ()) w92))) (bcase (n78 == 15) ((∃ M93 : Nat → Prop, ldSM M93 w70 ((bx g21).add 2) 0 fun A94 n95 c96 => ((32 : Int) ≠ 0 ∧ ldSM M93 w70 ((bx g21).add 2) 0 fun A97 n98 c99 => ((32 : Int) ≠ 0 ∧ (idx (Int.tmod n74 32) n98 A97 fun a100 => ldIM M93 w70 (a100.add (((Int.tmod n74 32).toNat) * 1)) 0 fun n101 => Cl 217 #[(iv n101), (iv n77)] w70.drew fun v102 w103 => (∃ (n104 : Int), v102 = (iv n104) ∧ SameBut M93 w70 w103 ∧ (idx (Int.tmod n74 32) n95 A94 fun a105 => stCells (a105.add (((Int.tmod n74 32).toNat) * 1)) [(iv n104)] 0 w103 fun w106 => next68 ((wrap .i64 (z66.1 + 1)), ()) w106))))))) (next68 ((wrap .i64 (z66.1 + 1)), ()) w70)))))))) (ldB w67 (bx g21) fun A107 n108 c109 A110 n111 c112 A113 n114 c115 n116 n117 => stCells (bx g23) [(sv A107 n108 c109), (sv A110 n111 c112), (sv A113 n114 c115), (iv n116), (iv n117)] 0 w67 fun w118 => ldB w118 (bx g23) fun A119 n120 c121 A122 n123 c124 A125 n126 c127 n128 n129 => K (.agg (vB A119 n120 c121 A122 n123 c124 A125 n126 c127 n128 n129)) w118)) (0, ()) w57))))

def spec_l30Memory.ann : Ann := (.seq .l (.seq .l (.seq .l (.seq .l (.seq (.seq .l (.one (.loop [(8, .int .i64)] (.seq (.seq .l (.two .l .l)) (.seq (.one (.seq (.seq .l (.two .l .l)) (.seq .l (.seq .l (.seq .l (.one (.seq .l (.two .l (.seq .l (.two .l (.seq .l (.two .l .l)))))))))))) .l))))) (.seq .l .l))))))

theorem spec_l30Memory.con {s0 : D.Block} {A0_0 A0_1 A0_2 : OA} {c0_0 c0_1 c0_2 : Nat} {F0_1 : Nat → Prop} {x1 : Int} {r : D.Block × (List D.Warp) × (List Int)} {w : World} (hp : M.spec_l30Memory_pre s0 x1) (hr : r = M.spec_l30Memory s0 x1) (R0_0 : Row el89 w A0_0 s0.Code) (hc0_0 : s0.Code.length ≤ c0_0) (O2 : OwnW 31 el130 el3 w 0 F0_1 A0_1 c0_1 s0.Warps) (O3 : Own el3 w 0 A0_2 c0_2 s0.Memory) (N2_3 : Dis (InW A0_1 F0_1) (InB A0_2)) (D0_0 : s0.Code ≠ [] → ∀ g, InB A0_0 g → ¬ (fun k_ => InW A0_1 F0_1 k_ ∨ InB A0_2 k_) g) :
    Cl 176 #[(.agg (bC A0_0 c0_0 A0_1 c0_1 A0_2 c0_2 s0)), (iv x1)] w (fun v_ w_ => v_ = (.agg #[(sv A0_0 s0.Code.length c0_0), (sv A0_1 s0.Warps.length c0_1), (sv A0_2 s0.Memory.length c0_2), (iv r.1.Waiting), (iv r.1.Phase)]) ∧ OwnW 31 el130 el3 w_ 0 F0_1 A0_1 c0_1 r.2.1 ∧ r.2.1.length = s0.Warps.length ∧ Own el3 w_ 0 A0_2 c0_2 r.2.2 ∧ r.2.2.length = s0.Memory.length ∧ Chg (fun k_ => InW A0_1 F0_1 k_ ∨ InB A0_2 k_) w w_) := by
 have H := wp.spec_l30Memory.math s0 x1 hp
 refine begK mixed Tryz.f176 ann (vc A0_0 s0.Code.length c0_0 A0_1 s0.Warps.length c0_1 A0_2 s0.Memory.length c0_2 s0.Waiting s0.Phase x1) ?_
 unfold vc
 unfold wp.spec_l30Memory at H
 have LM2 := MovW.refl w (InW A0_1 F0_1)
 refine newBlk (fun g4_ w21 L4 O4 e22 => ?_)
 have N3_4 := O3.apart_new L4
 have O3 := O3.ext e22
 have hB := (Chg.refl (fun k_ => InW A0_1 F0_1 k_ ∨ InB A0_2 k_) w).then e22
 refine newBlk (fun g5_ w23 L5 P5 e24 => ?_)
 have N3_5 := O3.apart_new L5
 have O2 := (O2.ext e22).ext e24
 have O3 := O3.ext e24
 have O4 := O4.ext e24
 have L5 := Nat.le_trans hB.size L5
 have hB := hB.then e24
 refine ⟨_, _, _, (O4.a 0), _, _, _, (O4.a 1), _, _, _, (O4.a 2), _, (O4.a 3), _, (O4.a 4), ?_⟩
 obtain ⟨hp27, H⟩ := H
 obtain ⟨r25, hr26, H⟩ := callO H
 refine (spec_l30Next.con hp27 hr26 (R0_0.chgS hB D0_0) hc0_0 O2.row O2.le O3.row O3.le).mono ?_
 rintro _ w28 ⟨rfl, e29⟩
 have O2 := O2.ext e29
 have O3 := O3.ext e29
 have O4 := O4.ext e29
 have O5 := P5.ext e29
 have hB := hB.then e29
 refine ⟨r25.Op, trivial, r25.A, trivial, r25.B, trivial, r25.C, trivial, rfl, ?_⟩
 refine newBlk (fun g6_ w30 L6 P6 e31 => ?_)
 have N2_6 := O2.dis_newbox L6
 have N3_6 := O3.apart_new L6
 have N4_6 := O4.ne L6
 have N5_6 := O5.ne L6
 have O3 := O3.ext e31
 have O4 := O4.ext e31
 have O6 := P6
 have L6 := Nat.le_trans hB.size L6
 refine stBlk O6 (o := 0) (cs' := (iC r25)) rfl rfl (Nat.le_of_ble_eq_true rfl) rfl (fun w32 O6 e33 => ?_)
 have O2 := (O2.ext e31).chg e33 N2_6
 have O3_ := O3.chg e33 N3_6
 have O4_ := O4.chg e33 N4_6
 have O4 := O4_
 refine ⟨_, _, _, (O4.a 1), ?_⟩
 obtain ⟨⟨h0_34, h1_35⟩, H⟩ := H
 obtain ⟨g7_, o7_, z7_, A8_, c8_, A9_, c9_, R7_, G10_, hA10, ha10, ho10, O7, O8, O9, O10, hF10, N10_8, N10_9, N10_7, L7⟩ := OwnW.focus O2 h0_34 h1_35 (by decide) (by decide) (by decide)
 have LM9 := LM2.sub (r_sub hF10)
 have N10_3 := dis_sub N2_3 (hole_sub hF10)
 have N9_3 := dis_ap2 (dis_sub N2_3 (r_sub hF10))
 refine ⟨h0_34, h1_35, (⟨g7_, z7_, none⟩ : Addr), hA10, ?_⟩
 try dsimp only
 try rw [ha10]
 refine ⟨_, (O7.a 0), _, _, _, (O7.a 1), _, _, _, (O7.a 2), ?_⟩
 obtain ⟨hp38, H⟩ := H
 obtain ⟨r36, hr37, H⟩ := callO H
 refine (cllA (spec_ActiveMask.con hp38 hr37 O8.row O8.le O9.row O9.le)).mono ?_
 rintro _ w39 ⟨rfl, e40⟩
 have O3 := O3_.ext e40
 have O4 := O4.ext e40
 have O5 := ((O5.ext e31).chg e33 N5_6).ext e40
 have O6 := O6.ext e40
 have O7 := O7.ext e40
 have O8 := O8.ext e40
 have O9 := O9.ext e40
 have O10 := O10.ext e40
 have hB := ((hB.then e31).chgb e33 (Or.inl L6)).then e40
 refine ⟨r36, rfl, _, _, _, (O4.a 1), ?_⟩
 obtain ⟨⟨h0_41, h1_42⟩, H⟩ := H
 refine ⟨h0_41, (by first | exact h1_42 | omega | (simp at h1_42 ⊢; omega)), (⟨g7_, z7_, none⟩ : Addr), hA10, ?_⟩
 try dsimp only
 try rw [ha10]
 refine ⟨_, _, _, (O7.a 2), ?_⟩
 obtain ⟨J141, ⟨m246, hJ245⟩, hS142⟩ := H
 refine ⟨fun m_ z_ w_ => ∃ (i135 : Int) (xs136 xs138 : List Int), z_ = (i135, ()) ∧ J141 m_ (i135, xs136, xs138, ()) ∧ Chg (fun k_ => InW A0_1 F0_1 k_ ∨ InB A0_2 k_) w w_ ∧ Own el3 w_ 0 A0_2 c0_2 xs136 ∧ s0.Memory.length = xs136.length ∧ Own el3 w_ 0 A9_ c9_ xs138 ∧ (rd s0.Warps x1).Regs.length = xs138.length ∧ MovW w (InW A0_1 F0_1) (InB A9_) ∧ Blk w_ g4_ 59 (bC A0_0 c0_0 A0_1 c0_1 A0_2 c0_2 s0) ∧ Blk w_ g5_ 59 zC ∧ Blk w_ g6_ 89 (iC r25) ∧ Plc w_ g7_ o7_ 31 R7_ #[(iv ((rd s0.Warps x1).Number)), (sv A8_ ((rd s0.Warps x1).Frames.length) c8_), (sv A9_ ((rd s0.Warps x1).Regs.length) c9_)] ∧ Own el130 w_ 0 A8_ c8_ ((rd s0.Warps x1).Frames) ∧ HoleW 31 el130 el3 w_ 0 G10_ A0_1 c0_1 s0.Warps ((x1.toNat)) R7_, ⟨m246, 0, s0.Memory, (rd s0.Warps x1).Regs, rfl, hJ245, hB, O3, (by first | rfl | assumption | omega | (simp; done) | (simp; omega) | (simp; assumption)), O9, (by first | rfl | assumption | omega | (simp; done) | (simp; omega) | (simp; assumption)), LM9, O4, O5, O6, (by first | exact O7 | (simp only [bC, wC, List.length_set]; exact O7)), O8, O10⟩, ?_⟩
 rintro m140 _ w144 ⟨i135, xs136, xs138, rfl, hJ247, hB, O3, hn137, O9, hn139, LM9, O4, O5, O6, O7, O8, O10⟩
 have H := hS142 m140 _ hJ247
 clear hS142 hJ247
 try dsimp only at H ⊢
 refine brc H (fun h H => ?_) fun h H => ?_
 ·obtain ⟨r145, hr146, H⟩ := callO H
  refine (spec_HasLane.con hr146 ).mono ?_
  rintro _ w148 ⟨rfl, e149⟩
  have O3 := O3.ext e149
  have O4 := O4.ext e149
  have O5 := O5.ext e149
  have O6 := O6.ext e149
  have O7 := O7.ext e149
  have O8 := O8.ext e149
  have O9 := O9.ext e149
  have O10 := O10.ext e149
  have hB := hB.then e149
  refine ⟨r145, rfl, ?_⟩
  refine brc H (fun h H => ?_) fun h H => ?_
  ·obtain ⟨m150, hm151, hJ152⟩ := H
   exact ⟨m150, hm151, _, _, _, rfl, hJ152, hB, O3, (by first | rfl | assumption | omega | (simp; done) | (simp; omega) | (simp; assumption)), O9, (by first | rfl | assumption | omega | (simp; done) | (simp; omega) | (simp; assumption)), LM9, (by first | exact O4 | (simp only [bC, wC, List.length_set, ← hn137]; exact O4)), O5, O6, (by first | exact O7 | (simp only [bC, wC, List.length_set, ← hn139]; exact O7)), O8, O10⟩
  refine ⟨_, (O6.a 1), ?_⟩
  obtain ⟨⟨h0_156, h1_157⟩, H⟩ := H
  obtain ⟨a154, ha155, hat153⟩ := Row.at O9.row h0_156 h1_157
  refine ⟨h0_156, (by first | exact h1_157 | omega | (simp at h1_157 ⊢; omega)), a154, ha155, _, (hat153 0 _ rfl), _, (O6.a 2), ?_⟩
  obtain ⟨⟨h0_161, h1_162⟩, H⟩ := H
  obtain ⟨a159, ha160, hat158⟩ := Row.at O9.row h0_161 h1_162
  refine ⟨h0_161, (by first | exact h1_162 | omega | (simp at h1_162 ⊢; omega)), a159, ha160, _, (hat158 0 _ rfl), _, (O6.a 0), ?_⟩
  refine brc H (fun h H => ?_) fun h H => ?_
  ·refine ⟨(fun _ => False), _, noM (O6.a 1), _, _, _, noM (O4.a 2), by decide, ?_⟩
   obtain ⟨⟨h0_168, h1_169⟩, H⟩ := H
   obtain ⟨a166, ha167, hat165⟩ := Row.at O3.row h0_168 h1_169
   refine ⟨h0_168, (by first | exact h1_169 | omega | (simp at h1_169 ⊢; omega)), a166, ha167, _, ⟨(fun h_ => h_), (hat165 0 _ rfl)⟩, ?_⟩
   obtain ⟨⟨h0_173, h1_174⟩, H⟩ := H
   obtain ⟨a171, ha172, hat170⟩ := Row.at O9.row h0_173 h1_174
   refine ⟨h0_173, (by first | exact h1_174 | omega | (simp at h1_174 ⊢; omega)), a171, ha172, ?_⟩
   have O4 := O4.ext (Ext.drew _)
   have O5 := O5.ext (Ext.drew _)
   have O6 := O6.ext (Ext.drew _)
   have O7 := O7.ext (Ext.drew _)
   have O8 := O8.ext (Ext.drew _)
   have O9 := O9.ext (Ext.drew _)
   refine Own.stA O9 ha172 h0_173 h1_174 0 (rd xs136 (Int.tmod (rd xs138 (wrap .i64 ((wrap .i64 (i135 * 4)) + r25.B))) 32)) (fun w175 P9 e176 hb177 => ?_)
   have O3 := (O3.ext (Ext.drew _)).chg e176 (((N9_3).symm).left ha172)
   have O4 := O4.chg e176 (fun h_ => ((O9.apart_type O4 (by decide))) _ ha172 h_.symm)
   have O5 := O5.chg e176 (fun h_ => ((O9.apart_type O5 (by decide))) _ ha172 h_.symm)
   have O6 := O6.chg e176 (fun h_ => ((O9.apart_type O6 (by decide))) _ ha172 h_.symm)
   have O7 := O7.chg e176 (fun h_ => ((O9.apart_type O7.b (by decide))) _ ha172 h_.symm)
   have O8 := O8.chg e176 (((Own.apart2_type O8 O9 (by decide))).left ha172)
   have O10 := (O10.ext (Ext.drew _)).chg e176 (fun h_ => N10_9 _ h_ ⟨_, ha172, rfl⟩)
   have hB := (hB.then (Ext.drew _)).chgb e176 ((LM9 _ ⟨_, ha172, rfl⟩).elim (fun h4_ => Or.inr (Or.inl h4_)) Or.inl)
   have O9 := P9
   obtain ⟨m178, hm179, hJ180⟩ := H
   exact ⟨m178, hm179, _, _, _, rfl, hJ180, hB, O3, (by first | rfl | assumption | omega | (simp; done) | (simp; omega) | (simp; assumption)), O9, (by first | rfl | assumption | omega | (simp; done) | (simp; omega) | (simp; assumption)), LM9, (by first | exact O4 | (simp only [bC, wC, List.length_set, ← hn137]; exact O4)), O5, O6, (by first | exact O7 | (simp only [bC, wC, List.length_set, ← hn139]; exact O7)), O8, O10⟩
  refine brc H (fun h H => ?_) fun h H => ?_
  ·refine ⟨_, _, _, (O4.a 2), by decide, ?_⟩
   obtain ⟨⟨h0_185, h1_186⟩, H⟩ := H
   obtain ⟨a183, ha184, hat182⟩ := Row.at O3.row h0_185 h1_186
   refine ⟨h0_185, (by first | exact h1_186 | omega | (simp at h1_186 ⊢; omega)), a183, ha184, ?_⟩
   refine Own.stA O3 ha184 h0_185 h1_186 0 (rd xs138 (wrap .i64 ((wrap .i64 (i135 * 4)) + r25.B))) (fun w187 P3 e188 hb189 => ?_)
   have O4 := O4.chg e188 (fun h_ => (N3_4) _ ha184 h_.symm)
   have O5 := O5.chg e188 (fun h_ => (N3_5) _ ha184 h_.symm)
   have O6 := O6.chg e188 (fun h_ => (N3_6) _ ha184 h_.symm)
   have O7 := O7.chg e188 (fun h_ => ((O3.apart_type O7.b (by decide))) _ ha184 h_.symm)
   have O8 := O8.chg e188 (((Own.apart2_type O8 O3 (by decide))).left ha184)
   have O9 := O9.chg e188 ((N9_3).left ha184)
   have O10 := O10.chg e188 (fun h_ => N10_3 _ h_ ⟨_, ha184, rfl⟩)
   have hB := hB.chgb e188 (Or.inr (Or.inr ⟨_, ha184, rfl⟩))
   have O3 := P3
   obtain ⟨m190, hm191, hJ192⟩ := H
   exact ⟨m190, hm191, _, _, _, rfl, hJ192, hB, O3, (by first | rfl | assumption | omega | (simp; done) | (simp; omega) | (simp; assumption)), O9, (by first | rfl | assumption | omega | (simp; done) | (simp; omega) | (simp; assumption)), LM9, (by first | exact O4 | (simp only [bC, wC, List.length_set, ← hn137]; exact O4)), O5, O6, (by first | exact O7 | (simp only [bC, wC, List.length_set, ← hn139]; exact O7)), O8, O10⟩
  refine brc H (fun h H => ?_) fun h H => ?_
  ·refine ⟨(fun _ => False), ?_⟩
   have hBz := hB
   have Z3 := O3
   refine ⟨_, _, _, noM (O4.a 2), by decide, _, _, _, noM (O4.a 2), by decide, ?_⟩
   obtain ⟨⟨h0_216, h1_217⟩, H⟩ := H
   obtain ⟨a214, ha215, hat213⟩ := Row.at O3.row h0_216 h1_217
   refine ⟨h0_216, (by first | exact h1_217 | omega | (simp at h1_217 ⊢; omega)), a214, ha215, _, ⟨(fun h_ => h_), (hat213 0 _ rfl)⟩, ?_⟩
   have O3 := O3.ext (Ext.drew _)
   have O4 := O4.ext (Ext.drew _)
   have O5 := O5.ext (Ext.drew _)
   have O6 := O6.ext (Ext.drew _)
   have O7 := O7.ext (Ext.drew _)
   have O8 := O8.ext (Ext.drew _)
   have O9 := O9.ext (Ext.drew _)
   have O10 := O10.ext (Ext.drew _)
   have hB := hB.then (Ext.drew _)
   have hS193 := (Chg.refl (fun _ => False) w148).then (Ext.drew _)
   obtain ⟨r218, hr219, H⟩ := callO H
   refine (spec_AddWords.con hr219 ).mono ?_
   rintro _ w221 ⟨rfl, e222⟩
   have O3 := O3.ext e222
   have O7 := O7.ext e222
   have O8 := O8.ext e222
   have hS193 := hS193.then e222
   refine ⟨r218, rfl, sameBut_chg hS193, ?_⟩
   obtain ⟨⟨h0_226, h1_227⟩, H⟩ := H
   obtain ⟨a224, ha225, hat223⟩ := Row.at Z3.row h0_226 h1_227
   refine ⟨h0_226, (by first | exact h1_227 | omega | (simp at h1_227 ⊢; omega)), a224, ha225, ?_⟩
   refine Own.stA O3 ha225 h0_226 h1_227 0 r218 (fun w228 P3 e229 hb230 => ?_)
   have O4 := (O4.ext e222).chg e229 (fun h_ => (N3_4) _ ha225 h_.symm)
   have O5 := (O5.ext e222).chg e229 (fun h_ => (N3_5) _ ha225 h_.symm)
   have O6 := (O6.ext e222).chg e229 (fun h_ => (N3_6) _ ha225 h_.symm)
   have O7 := O7.chg e229 (fun h_ => ((O3.apart_type O7.b (by decide))) _ ha225 h_.symm)
   have O8 := O8.chg e229 (((Own.apart2_type O8 O3 (by decide))).left ha225)
   have O9 := (O9.ext e222).chg e229 ((N9_3).left ha225)
   have O10 := (O10.ext e222).chg e229 (fun h_ => N10_3 _ h_ ⟨_, ha225, rfl⟩)
   have hB := (hB.then e222).chgb e229 (Or.inr (Or.inr ⟨_, ha225, rfl⟩))
   have O3 := P3
   obtain ⟨m231, hm232, hJ233⟩ := H
   exact ⟨m231, hm232, _, _, _, rfl, hJ233, hB, O3, (by first | rfl | assumption | omega | (simp; done) | (simp; omega) | (simp; assumption)), O9, (by first | rfl | assumption | omega | (simp; done) | (simp; omega) | (simp; assumption)), LM9, (by first | exact O4 | (simp only [bC, wC, List.length_set, ← hn137]; exact O4)), O5, O6, (by first | exact O7 | (simp only [bC, wC, List.length_set, ← hn139]; exact O7)), O8, O10⟩
  obtain ⟨m234, hm235, hJ236⟩ := H
  exact ⟨m234, hm235, _, _, _, rfl, hJ236, hB, O3, (by first | rfl | assumption | omega | (simp; done) | (simp; omega) | (simp; assumption)), O9, (by first | rfl | assumption | omega | (simp; done) | (simp; omega) | (simp; assumption)), LM9, (by first | exact O4 | (simp only [bC, wC, List.length_set, ← hn137]; exact O4)), O5, O6, (by first | exact O7 | (simp only [bC, wC, List.length_set, ← hn139]; exact O7)), O8, O10⟩
 refine ⟨_, _, _, (O4.a 0), _, _, _, (O4.a 1), _, _, _, (O4.a 2), _, (O4.a 3), _, (O4.a 4), ?_⟩
 refine stB O5 0 (bC A0_0 c0_0 A0_1 c0_1 A0_2 c0_2 s0) (fun w241 P5 e242 => ?_)
 have O3 := O3.chg e242 N3_5
 have O7 := O7.chg e242 (Blk.ne_type O7.b O5 (by decide))
 have O8 := O8.chg e242 (O8.apart_type O5 (by decide))
 have O9 := O9.chg e242 (O9.apart_type O5 (by decide))
 have O10 := O10.chg e242 (O10.dis_blk O5 (by decide) (by decide) (by decide))
 have hB := hB.chgb e242 (Or.inl L5)
 have O5 := P5
 have O2 := (HoleW.back O10 hA10 ho10 O7 O8 O9 (by first | rfl | (simp only [bC, wC, List.length_set]; done) | (simp; done) | (simp; omega)) (by first | rfl | (simp only [bC, wC, List.length_set, ← hn139]; done) | (simp; done) | (simp; omega)) (fun _ _ => Nat.zero_le _) (fun _ _ => Nat.zero_le _) (by decide) (by decide) (by decide) N10_8 N10_9).sameF hF10
 refine ⟨_, _, _, (O5.a 0), _, _, _, (O5.a 1), _, _, _, (O5.a 2), _, (O5.a 3), _, (O5.a 4), ?_⟩
 cases hr.trans H.symm
 exact ⟨rfl, O2, (by first | (simp only [bC, wC, List.length_set]; done) | (simp only [bC, wC, List.length_set, List.length_set]; done) | (simp; done) | (simp; omega) | omega), O3, (by first | (simp only [bC, wC, List.length_set]; done) | (simp only [bC, wC, List.length_set, ← hn137]; done) | (simp; done) | (simp; omega) | omega), hB⟩
def spec_l30All.vc (A0_0 : OA) (n0_0 c0_0 : Nat) (A0_1 : OA) (n0_1 c0_1 : Nat) (A0_2 : OA) (n0_2 c0_2 : Nat) (x0_3 x0_4 : Int) (w : World) (K : VK) : Prop :=
  newK w (.cells (vB A0_0 n0_0 c0_0 A0_1 n0_1 c0_1 A0_2 n0_2 c0_2 x0_3 x0_4) 59) fun g21 w22 => LoopT (σ := Int × Unit) (fun z23 w24 next25 => ldS w24 (((bx g21).add 1).add 0) fun A26 n27 c28 => bcase (decide (z23.1 < ((n27 : Nat) : Int))) (ldS w24 (((bx g21).add 1).add 0) fun A29 n30 c31 => (idx z23.1 n30 A29 fun a32 => ldS w24 (((a32.add ((z23.1.toNat) * 3)).add 1).add 0) fun A33 n34 c35 => bcase (decide (((n34 : Nat) : Int) > 0)) (ldI w24 (((bx g21).add 3).add 0) fun n36 => ((0 : Int) ≤ z23.1 ∧ bcase ((bitAnd .i64 (Int.fdiv n36 (2 ^ (min (z23.1.toNat) (IntKind.bits .i64)))) 1) == 0) (K (.bool false) w24) (next25 ((wrap .i64 (z23.1 + 1)), ()) w24))) (next25 ((wrap .i64 (z23.1 + 1)), ()) w24))) (ldI w24 (((bx g21).add 3).add 0) fun n37 => K (.bool (n37 != 0)) w24)) (0, ()) w22

def spec_l30All.ann : Ann := (.seq .l (.seq (.seq .l (.one (.loop [(3, .int .i64)] (.seq (.seq .l (.two .l .l)) (.seq (.one (.seq .l (.two (.seq .l .l) .l))) .l))))) (.seq .l .l)))

theorem spec_l30All.con {s0 : D.Block} {A0_0 A0_1 A0_2 : OA} {c0_0 c0_1 c0_2 : Nat} {r : Bool} {w : World} (hp : M.spec_l30All_pre s0) (hr : r = M.spec_l30All s0) (R0_0 : Row el89 w A0_0 s0.Code) (hc0_0 : s0.Code.length ≤ c0_0) (R0_1 : RowW 31 el130 el3 w A0_1 s0.Warps) (hc0_1 : s0.Warps.length ≤ c0_1) (R0_2 : Row el3 w A0_2 s0.Memory) (hc0_2 : s0.Memory.length ≤ c0_2) :
    Cl 177 #[(.agg (bC A0_0 c0_0 A0_1 c0_1 A0_2 c0_2 s0))] w (fun v_ w_ => v_ = (.bool r) ∧ Ext w w_) := by
 have H := wp.spec_l30All.math s0 hp
 refine begK mixed Tryz.f177 ann (vc A0_0 s0.Code.length c0_0 A0_1 s0.Warps.length c0_1 A0_2 s0.Memory.length c0_2 s0.Waiting s0.Phase) ?_
 unfold vc
 unfold wp.spec_l30All at H
 refine newBlk (fun g4_ w21 L4 O4 e22 => ?_)
 have hB := ethen (Ext.refl w) e22
 obtain ⟨J25, ⟨m57, hJ56⟩, hS26⟩ := H
 refine ⟨fun m_ z_ w_ => ∃ (i23 : Int), z_ = (i23, ()) ∧ J25 m_ (i23, ()) ∧ Ext w w_ ∧ Blk w_ g4_ 59 (bC A0_0 c0_0 A0_1 c0_1 A0_2 c0_2 s0), ⟨m57, 0, rfl, hJ56, hB, O4⟩, ?_⟩
 rintro m24 _ w28 ⟨i23, rfl, hJ58, hB, O4⟩
 have H := hS26 m24 _ hJ58
 clear hS26 hJ58
 try dsimp only at H ⊢
 refine ⟨_, _, _, (O4.a 1), ?_⟩
 refine brc H (fun h H => ?_) fun h H => ?_
 ·refine ⟨_, _, _, (O4.a 1), ?_⟩
  obtain ⟨⟨h0_32, h1_33⟩, H⟩ := H
  obtain ⟨a30, ha31, A37, c38, A39, c40, f34, f35, f36, R41, hle43, R42, hle44⟩ := RowW.at R0_1 h0_32 h1_33
  refine ⟨h0_32, h1_33, a30, ha31, _, _, _, (Ext.cell hB f35), ?_⟩
  refine brc H (fun h H => ?_) fun h H => ?_
  ·refine ⟨_, (O4.a 3), ?_⟩
   obtain ⟨hc45, H⟩ := H
   refine ⟨hc45, ?_⟩
   refine brc H (fun h H => ?_) fun h H => ?_
   ·cases hr.trans H.symm
    exact ⟨rfl, hB⟩
   obtain ⟨m46, hm47, hJ48⟩ := H
   exact ⟨m46, hm47, _, rfl, hJ48, hB, O4⟩
  obtain ⟨m50, hm51, hJ52⟩ := H
  exact ⟨m50, hm51, _, rfl, hJ52, hB, O4⟩
 refine ⟨_, (O4.a 3), ?_⟩
 cases hr.trans H.symm
 exact ⟨rfl, hB⟩
def spec_l30Step.vc (A0_0 : OA) (n0_0 c0_0 : Nat) (A0_1 : OA) (n0_1 c0_1 : Nat) (A0_2 : OA) (n0_2 c0_2 : Nat) (x0_3 x0_4 x1 : Int) (w : World) (K : VK) : Prop :=
  newK w (.cells (vB A0_0 n0_0 c0_0 A0_1 n0_1 c0_1 A0_2 n0_2 c0_2 x0_3 x0_4) 59) fun g21 w22 => newK w22 (.cells zC 59) fun g23 w24 => ldB w24 (bx g21) fun A25 n26 c27 A28 n29 c30 A31 n32 c33 n34 n35 => Cl 108 #[(.agg (vB A25 n26 c27 A28 n29 c30 A31 n32 c33 n34 n35))] w24 fun v36 w37 => (∃ (A38 : OA) (n39 c40 : Nat), True ∧ ∃ (A41 : OA) (n42 c43 : Nat), True ∧ ∃ (A44 : OA) (n45 c46 : Nat), True ∧ ∃ (n47 : Int), True ∧ ∃ (n48 : Int), True ∧ v36 = (.agg (vB A38 n39 c40 A41 n42 c43 A44 n45 c46 n47 n48)) ∧ newK w37 (.cells zC 59) fun g49 w50 => stCells (bx g49) [(sv A38 n39 c40), (sv A41 n42 c43), (sv A44 n45 c46), (iv n47), (iv n48)] 0 w50 fun w51 => ldB w51 (bx g21) fun A52 n53 c54 A55 n56 c57 A58 n59 c60 n61 n62 => Cl 164 #[(.agg (vB A52 n53 c54 A55 n56 c57 A58 n59 c60 n61 n62)), (iv x1)] w51 fun v63 w64 => (∃ (n65 : Int), True ∧ ∃ (n66 : Int), True ∧ ∃ (n67 : Int), True ∧ ∃ (n68 : Int), True ∧ v63 = (.agg #[(iv n65), (iv n66), (iv n67), (iv n68)]) ∧ newK w64 (.cells #[(iv 0), (iv 0), (iv 0), (iv 0)] 89) fun g69 w70 => stCells (bx g69) [(iv n65), (iv n66), (iv n67), (iv n68)] 0 w70 fun w71 => JoinT (σ := Unit) (fun J72 => ldI w71 ((bx g69).add 0) fun n73 => ldI w71 ((bx g69).add 1) fun n74 => ldI w71 ((bx g69).add 2) fun n75 => ldI w71 ((bx g69).add 3) fun n76 => Cl 133 #[(.agg #[(iv n73), (iv n74), (iv n75), (iv n76)])] w71 fun v77 w78 => (∃ (b79 : Bool), v77 = (.bool b79) ∧ bcase b79 ((∃ M80 : Nat → Prop, ldSM M80 w78 ((bx g49).add 1) 0 fun A81 n82 c83 => ldSM M80 w78 ((bx g21).add 0) 0 fun A84 n85 c86 => ldSM M80 w78 ((bx g21).add 1) 0 fun A87 n88 c89 => (idx x1 n88 A87 fun a90 => ldIM M80 w78 (a90.add ((x1.toNat) * 3)) 0 fun n91 => ldSM M80 w78 (a90.add ((x1.toNat) * 3)) 1 fun A92 n93 c94 => ldSM M80 w78 (a90.add ((x1.toNat) * 3)) 2 fun A95 n96 c97 => Cl 84 #[(sv A84 n85 c86), (.agg #[(iv n91), (sv A92 n93 c94), (sv A95 n96 c97)])] w78.drew fun v98 w99 => (∃ (n100 : Int), True ∧ ∃ (A101 : OA) (n102 c103 : Nat), True ∧ ∃ (A104 : OA) (n105 c106 : Nat), True ∧ v98 = (.agg #[(iv n100), (sv A101 n102 c103), (sv A104 n105 c106)]) ∧ SameBut M80 w78 w99 ∧ (idx x1 n82 A81 fun a107 => stCells (a107.add ((x1.toNat) * 3)) [(iv n100), (sv A101 n102 c103), (sv A104 n105 c106)] 0 w99 fun w108 => J72 () w108))))) (ldB w78 (bx g49) fun A109 n110 c111 A112 n113 c114 A115 n116 c117 n118 n119 => Cl 176 #[(.agg (vB A109 n110 c111 A112 n113 c114 A115 n116 c117 n118 n119)), (iv x1)] w78 fun v120 w121 => (∃ (A122 : OA) (n123 c124 : Nat), True ∧ ∃ (A125 : OA) (n126 c127 : Nat), True ∧ ∃ (A128 : OA) (n129 c130 : Nat), True ∧ ∃ (n131 : Int), True ∧ ∃ (n132 : Int), True ∧ v120 = (.agg (vB A122 n123 c124 A125 n126 c127 A128 n129 c130 n131 n132)) ∧ stCells (bx g49) [(sv A122 n123 c124), (sv A125 n126 c127), (sv A128 n129 c130), (iv n131), (iv n132)] 0 w121 fun w133 => JoinT (σ := Unit) (fun J134 => ldI w133 (((bx g69).add 0).add 0) fun n135 => bcase (n135 == 16) (((0 : Int) ≤ x1 ∧ ((∃ (n136 : Int), w133.drew.cell? (((bx g49).add 3).add 0) = some (iv n136) ∧ ((stCells ((bx g49).add 3) [(iv (bitOr .i64 n136 (wrap .i64 (1 * 2 ^ (min (x1.toNat) (IntKind.bits .i64))))))] 0 w133.drew fun w137 => J134 () w137) ∧ True)) ∧ True))) (J134 () w133)) fun z138 w139 => ldS w139 (((bx g49).add 1).add 0) fun A140 n141 c142 => (idx x1 n141 A140 fun a143 => ldS w139 (((a143.add ((x1.toNat) * 3)).add 1).add 0) fun A144 n145 c146 => (∃ M147 : Nat → Prop, ldSM M147 w139 ((bx g49).add 1) 0 fun A148 n149 c150 => (idx x1 n149 A148 fun a151 => ldSM M147 w139 ((a151.add ((x1.toNat) * 3)).add 1) 0 fun A152 n153 c154 => ldSM M147 w139 ((bx g49).add 1) 0 fun A155 n156 c157 => (idx x1 n156 A155 fun a158 => ldSM M147 w139 ((a158.add ((x1.toNat) * 3)).add 1) 0 fun A159 n160 c161 => (idx (wrap .i64 (((n145 : Nat) : Int) - 1)) n160 A159 fun a162 => ldIM M147 w139 ((a162.add (((wrap .i64 (((n145 : Nat) : Int) - 1)).toNat) * 3)).add 0) 0 fun n163 => (idx (wrap .i64 (((n145 : Nat) : Int) - 1)) n153 A152 fun a164 => stCells ((a164.add (((wrap .i64 (((n145 : Nat) : Int) - 1)).toNat) * 3)).add 0) [(iv (wrap .i64 (n163 + 1)))] 0 w139.drew fun w165 => (∃ M166 : Nat → Prop, ldSM M166 w165 ((bx g49).add 1) 0 fun A167 n168 c169 => ldSM M166 w165 ((bx g21).add 0) 0 fun A170 n171 c172 => ldSM M166 w165 ((bx g49).add 1) 0 fun A173 n174 c175 => (idx x1 n174 A173 fun a176 => ldIM M166 w165 (a176.add ((x1.toNat) * 3)) 0 fun n177 => ldSM M166 w165 (a176.add ((x1.toNat) * 3)) 1 fun A178 n179 c180 => ldSM M166 w165 (a176.add ((x1.toNat) * 3)) 2 fun A181 n182 c183 => Cl 151 #[(sv A170 n171 c172), (.agg #[(iv n177), (sv A178 n179 c180), (sv A181 n182 c183)])] w165.drew fun v184 w185 => (∃ (n186 : Int), True ∧ ∃ (A187 : OA) (n188 c189 : Nat), True ∧ ∃ (A190 : OA) (n191 c192 : Nat), True ∧ v184 = (.agg #[(iv n186), (sv A187 n188 c189), (sv A190 n191 c192)]) ∧ SameBut M166 w165 w185 ∧ (idx x1 n168 A167 fun a193 => stCells (a193.add ((x1.toNat) * 3)) [(iv n186), (sv A187 n188 c189), (sv A190 n191 c192)] 0 w185 fun w194 => J72 () w194)))))))))))))) fun z195 w196 => ldB w196 (bx g49) fun A197 n198 c199 A200 n201 c202 A203 n204 c205 n206 n207 => Cl 177 #[(.agg (vB A197 n198 c199 A200 n201 c202 A203 n204 c205 n206 n207))] w196 fun v208 w209 => (∃ (b210 : Bool), v208 = (.bool b210) ∧ bcase b210 (stCells ((bx g49).add 3) [(iv 0)] 0 w209 fun w211 => ldI w211 (((bx g49).add 4).add 0) fun n212 => stCells ((bx g49).add 4) [(iv (wrap .i64 (n212 + 1)))] 0 w211 fun w213 => ldB w213 (bx g49) fun A214 n215 c216 A217 n218 c219 A220 n221 c222 n223 n224 => stCells (bx g23) [(sv A214 n215 c216), (sv A217 n218 c219), (sv A220 n221 c222), (iv n223), (iv n224)] 0 w213 fun w225 => ldB w225 (bx g23) fun A226 n227 c228 A229 n230 c231 A232 n233 c234 n235 n236 => K (.agg (vB A226 n227 c228 A229 n230 c231 A232 n233 c234 n235 n236)) w225) (ldB w209 (bx g49) fun A237 n238 c239 A240 n241 c242 A243 n244 c245 n246 n247 => stCells (bx g23) [(sv A237 n238 c239), (sv A240 n241 c242), (sv A243 n244 c245), (iv n246), (iv n247)] 0 w209 fun w248 => ldB w248 (bx g23) fun A249 n250 c251 A252 n253 c254 A255 n256 c257 n258 n259 => K (.agg (vB A249 n250 c251 A252 n253 c254 A255 n256 c257 n258 n259)) w248))))

def spec_l30Step.ann : Ann := (.seq .l (.seq .l (.seq .l (.cut [] (.seq .l (.two .l (.seq .l (.cut [] (.seq .l (.two .each .l)) (.seq .l (.seq .l .l)))))) (.seq (.seq .l (.two (.seq .l .l) .l)) (.seq .l .l))))))

theorem spec_l30Step.con {s0 r : D.Block} {A0_0 A0_1 A0_2 : OA} {c0_0 c0_1 c0_2 : Nat} {x1 : Int} {w : World} (hp : M.spec_l30Step_pre s0 x1) (hr : r = M.spec_l30Step s0 x1) (R0_0 : Row el89 w A0_0 s0.Code) (hc0_0 : s0.Code.length ≤ c0_0) (R0_1 : RowW 31 el130 el3 w A0_1 s0.Warps) (hc0_1 : s0.Warps.length ≤ c0_1) (R0_2 : Row el3 w A0_2 s0.Memory) (hc0_2 : s0.Memory.length ≤ c0_2) :
    Cl 109 #[(.agg (bC A0_0 c0_0 A0_1 c0_1 A0_2 c0_2 s0)), (iv x1)] w (fun v_ w_ => ∃ (A0_ : OA) (c0_ : Nat) (A1_ : OA) (c1_ : Nat) (F1_ : Nat → Prop) (A2_ : OA) (c2_ : Nat), v_ = (.agg (bC A0_ c0_ A1_ c1_ A2_ c2_ r)) ∧ Own el89 w_ w.heap.size A0_ c0_ r.Code ∧ OwnW 31 el130 el3 w_ w.heap.size F1_ A1_ c1_ r.Warps ∧ Own el3 w_ w.heap.size A2_ c2_ r.Memory ∧ Dis (InW A1_ F1_) (InB A2_) ∧ Ext w w_) := by
 have H := wp.spec_l30Step.math s0 x1 hp
 refine begK mixed Tryz.f109 ann (vc A0_0 s0.Code.length c0_0 A0_1 s0.Warps.length c0_1 A0_2 s0.Memory.length c0_2 s0.Waiting s0.Phase x1) ?_
 unfold vc
 unfold wp.spec_l30Step at H
 refine newBlk (fun g4_ w21 L4 O4 e22 => ?_)
 have hB := ethen (Ext.refl w) e22
 refine newBlk (fun g5_ w23 L5 P5 e24 => ?_)
 have O4 := O4.ext e24
 have O5 := P5
 have L5 := Nat.le_trans hB.size L5
 have hB := ethen hB e24
 refine ⟨_, _, _, (O4.a 0), _, _, _, (O4.a 1), _, _, _, (O4.a 2), _, (O4.a 3), _, (O4.a 4), ?_⟩
 obtain ⟨hp27, H⟩ := H
 obtain ⟨r25, hr26, H⟩ := callO H
 refine (spec_l29Copy.con hp27 hr26 (R0_0.ext hB) hc0_0 (R0_1.ext hB) hc0_1 (R0_2.ext hB) hc0_2).mono ?_
 rintro _ w28 ⟨A30, c31, A32, c33, F36, A34, c35, rfl, P6, P7, P8, N7_8, e29⟩
 have N6_5 := P6.apart_old O5.lt
 have N7_4 := P7.new_disbox O4 (Nat.le_refl _)
 have N7_5 := P7.new_disbox O5 (Nat.le_refl _)
 have N8_4 := P8.apart_old O4.lt
 have N8_5 := P8.apart_old O5.lt
 have O4 := O4.ext e29
 have O5 := O5.ext e29
 have O6 := P6.mono hB.size
 have O7 := P7.mono hB.size
 have O8 := P8.mono hB.size
 have hB := ethen hB e29
 refine ⟨A30, r25.Code.length, c31, trivial, A32, r25.Warps.length, c33, trivial, A34, r25.Memory.length, c35, trivial, r25.Waiting, trivial, r25.Phase, trivial, rfl, ?_⟩
 refine newBlk (fun g9_ w37 L9 P9 e38 => ?_)
 have N4_9 := O4.ne L9
 have N5_9 := O5.ne L9
 have N6_9 := O6.apart_new L9
 have N7_9 := O7.dis_newbox L9
 have N8_9 := O8.apart_new L9
 have O4 := O4.ext e38
 have O5 := O5.ext e38
 have O6 := O6.ext e38
 have O7 := O7.ext e38
 have O8 := O8.ext e38
 have O9 := P9
 have L9 := Nat.le_trans hB.size L9
 have hB := ethen hB e38
 refine stB O9 0 (bC A30 c31 A32 c33 A34 c35 r25) (fun w39 P9 e40 => ?_)
 have O4_ := O4.chg e40 N4_9
 have O5_ := O5.chg e40 N5_9
 have O6_ := O6.chg e40 N6_9
 have O7_ := O7.chg e40 N7_9
 have O8_ := O8.chg e40 N8_9
 have O4 := O4_
 have hB := echg hB e40 L9
 refine ⟨_, _, _, (O4.a 0), _, _, _, (O4.a 1), _, _, _, (O4.a 2), _, (O4.a 3), _, (O4.a 4), ?_⟩
 obtain ⟨hp43, H⟩ := H
 obtain ⟨r41, hr42, H⟩ := callO H
 refine (spec_l30Next.con hp43 hr42 (R0_0.ext hB) hc0_0 (R0_1.ext hB) hc0_1 (R0_2.ext hB) hc0_2).mono ?_
 rintro _ w44 ⟨rfl, e45⟩
 have O4 := O4.ext e45
 have O5 := O5_.ext e45
 have O6 := O6_.ext e45
 have O7 := O7_.ext e45
 have O8 := O8_.ext e45
 have O9 := P9.ext e45
 have hB := ethen hB e45
 refine ⟨r41.Op, trivial, r41.A, trivial, r41.B, trivial, r41.C, trivial, rfl, ?_⟩
 refine newBlk (fun g10_ w46 L10 P10 e47 => ?_)
 have N4_10 := O4.ne L10
 have N5_10 := O5.ne L10
 have N6_10 := O6.apart_new L10
 have N7_10 := O7.dis_newbox L10
 have N8_10 := O8.apart_new L10
 have N9_10 := O9.ne L10
 have O6 := O6.ext e47
 have O7 := O7.ext e47
 have O8 := O8.ext e47
 have O9 := O9.ext e47
 have O10 := P10
 have L10 := Nat.le_trans hB.size L10
 have hB := ethen hB e47
 refine stBlk O10 (o := 0) (cs' := (iC r41)) rfl rfl (Nat.le_of_ble_eq_true rfl) rfl (fun w48 O10 e49 => ?_)
 have O4 := (O4.ext e47).chg e49 N4_10
 have O5 := (O5.ext e47).chg e49 N5_10
 have O6_ := O6.chg e49 N6_10
 have O7_ := O7.chg e49 N7_10
 have O8_ := O8.chg e49 N8_10
 have O9_ := O9.chg e49 N9_10
 have O6 := O6_
 have O7 := O7_
 have O8 := O8_
 have O9 := O9_
 have hB := echg hB e49 L10
 obtain ⟨K169, hKK169, H⟩ := joinP_out H
 refine ⟨fun z_ w_ => ∃ (i50 i51 : Int) (xs52 : List D.Warp) (xs55 : List Int) (F53 : Nat → Prop), z_ = (()) ∧ K169 (i50, i51, xs52, xs55, ()) ∧ Ext w w_ ∧ Blk w_ g9_ 59 #[(sv A30 r25.Code.length c31), (sv A32 r25.Warps.length c33), (sv A34 r25.Memory.length c35), (iv i50), (iv i51)] ∧ OwnW 31 el130 el3 w_ w.heap.size F53 A32 c33 xs52 ∧ r25.Warps.length = xs52.length ∧ Dis (InW A32 F53) (InB A34) ∧ Own el3 w_ w.heap.size A34 c35 xs55 ∧ r25.Memory.length = xs55.length ∧ Blk w_ g5_ 59 zC ∧ Own el89 w_ w.heap.size A30 c31 r25.Code, ?_, ?_⟩
 ·refine ⟨_, (O10.a 0), _, (O10.a 1), _, (O10.a 2), _, (O10.a 3), ?_⟩
  obtain ⟨r60, hr61, H⟩ := callO H
  refine (spec_IsLocal.con hr61 ).mono ?_
  rintro _ w63 ⟨rfl, e64⟩
  have O4 := O4.ext e64
  have O5 := O5.ext e64
  have O6 := O6.ext e64
  have O7 := O7.ext e64
  have O8 := O8.ext e64
  have O9 := O9.ext e64
  have O10 := O10.ext e64
  have hB := ethen hB e64
  refine ⟨r60, rfl, ?_⟩
  refine brc H (fun h H => ?_) fun h H => ?_
  ·obtain ⟨⟨h0_66, h1_67⟩, H⟩ := H
   obtain ⟨g25_, o25_, z25_, A26_, c26_, A27_, c27_, R25_, G28_, hA28, ha28, ho28, O25, O26, O27, O28, hF28, N28_26, N28_27, N28_25, L25⟩ := OwnW.focus O7 h0_66 h1_67 (by decide) (by decide) (by decide)
   have N28_8 := dis_sub N7_8 (hole_sub hF28)
   refine ⟨(fun _ => False), _, _, _, noM (O9.a 1), _, _, _, noM (O4.a 0), _, _, _, noM (O4.a 1), ?_⟩
   obtain ⟨⟨h0_71, h1_72⟩, H⟩ := H
   obtain ⟨a69, ha70, A76, c77, A78, c79, f73, f74, f75, R80, hle82, R81, hle83⟩ := RowW.at R0_1 h0_71 h1_72
   refine ⟨h0_71, h1_72, a69, ha70, _, ⟨(fun h_ => h_), (Ext.cell hB f73)⟩, _, _, _, ⟨(fun h_ => h_), (Ext.cell hB f74)⟩, _, _, _, ⟨(fun h_ => h_), (Ext.cell hB f75)⟩, ?_⟩
   have O5 := O5.ext (Ext.drew _)
   have O6 := O6.ext (Ext.drew _)
   have O8 := O8.ext (Ext.drew _)
   have O9 := O9.ext (Ext.drew _)
   have O25 := O25.ext (Ext.drew _)
   have O28 := O28.ext (Ext.drew _)
   have hB := ethen hB (Ext.drew _)
   have hS65 := (Chg.refl (fun _ => False) w63).then (Ext.drew _)
   obtain ⟨hp86, H⟩ := H
   obtain ⟨r84, hr85, H⟩ := callO H
   refine (cllA (spec_l13Step.con hp86 hr85 (R0_0.ext hB) hc0_0 (R80.ext hB) hle82 (R81.ext hB) hle83)).mono ?_
   rintro _ w87 ⟨A89, c90, A91, c92, rfl, P31, P32, e88⟩
   have N8_31 := aN O8 P31
   have N31_25 := P31.apart_old O25.lt
   have N28_31 := O28.dis_new P31 (Nat.le_refl _)
   have N8_32 := aN O8 P32
   have N32_25 := P32.apart_old O25.lt
   have N28_32 := O28.dis_new P32 (Nat.le_refl _)
   have O5 := O5.ext e88
   have O6 := O6.ext e88
   have O8 := O8.ext e88
   have O9 := O9.ext e88
   have O25 := O25.ext e88
   have O31 := P31.mono hB.size
   have O32 := P32.mono hB.size
   have hB := ethen hB e88
   have hS65 := hS65.then e88
   refine ⟨r84.Number, trivial, A89, r84.Frames.length, c90, trivial, A91, r84.Regs.length, c92, trivial, rfl, sameBut_chg hS65, ?_⟩
   obtain ⟨⟨h0_93, h1_94⟩, H⟩ := H
   refine ⟨h0_93, (by first | exact h1_94 | omega | (simp at h1_94 ⊢; omega)), (⟨g25_, z25_, none⟩ : Addr), hA28, ?_⟩
   try dsimp only
   try rw [ha28]
   refine stPlc O25 (j := 0) (cs' := (wC A89 c90 A91 c92 r84)) rfl rfl (Nat.le_of_ble_eq_true rfl) rfl (fun w95 P25 e96 => ?_)
   have O5 := O5.chg e96 (Blk.ne_type O5 O25.b (by decide))
   have O6 := O6.chg e96 (O6.apart_type O25.b (by decide))
   have O8 := O8.chg e96 (O8.apart_type O25.b (by decide))
   have O9 := O9.chg e96 (Blk.ne_type O9 O25.b (by decide))
   have O28 := (O28.ext e88).chg e96 N28_25
   have O31 := O31.chg e96 N31_25
   have O32 := O32.chg e96 N32_25
   have hB := echg hB e96 L25
   have O25 := P25
   have O7 := (HoleW.back O28 hA28 ho28 O25 O31 O32 rfl rfl O31.low O32.low (by decide) (by decide) (by decide) N28_31 N28_32)
   have N7_8 := dis_back (dis_A hA28 (O8.apart_type O25.b (by decide))) N28_8 (N8_31).symm (N8_32).symm
   exact ⟨_, _, _, _, (fun k => G28_ k ∨ InB A89 k ∨ InB A91 k), rfl, H, hB, (by first | exact O9 | (simp only [bC, wC, List.length_set]; exact O9)), O7, (by first | rfl | assumption | omega | (simp; done) | (simp; omega) | (simp; assumption)), N7_8, O8, (by first | rfl | assumption | omega | (simp; done) | (simp; omega) | (simp; assumption)), O5, O6⟩
  refine ⟨_, _, _, (O9.a 0), _, _, _, (O9.a 1), _, _, _, (O9.a 2), _, (O9.a 3), _, (O9.a 4), ?_⟩
  obtain ⟨hp99, H⟩ := H
  obtain ⟨r97, hr98, H⟩ := callO H
  refine (spec_l30Memory.con hp99 hr98 O6.row O6.le (O7.mono (Nat.zero_le _)) (O8.mono (Nat.zero_le _)) N7_8 (fun _ => (fun g h_ => (fun hS_ => hS_.elim (((O7.dis_type O6 (by decide) (by decide) (by decide))).symm g h_) (((Own.apart2_type O6 O8 (by decide))).inb g h_))))).mono ?_
  rintro _ w100 ⟨rfl, Q7, hl102, Q8, hl103, e101⟩
  have O4 := O4.chgS e101 (fun hS_ => hS_.elim N7_4 (N8_4).inb)
  have O5 := O5.chgS e101 (fun hS_ => hS_.elim N7_5 (N8_5).inb)
  have O6 := O6.chgS e101 (fun g h_ => (fun hS_ => hS_.elim (((O7.dis_type O6 (by decide) (by decide) (by decide))).symm g h_) (((Own.apart2_type O6 O8 (by decide))).inb g h_)))
  have O9 := O9.chgS e101 (fun hS_ => hS_.elim N7_9 (N8_9).inb)
  have hB := Chg.ext hB e101 (fun g => (fun hS_ => hS_.elim (O7.lowW g) (O8.low g)))
  have O8 := Q8.up O8
  refine ⟨A30, r25.Code.length, c31, trivial, A32, r25.Warps.length, c33, trivial, A34, r25.Memory.length, c35, trivial, r97.1.Waiting, trivial, r97.1.Phase, trivial, rfl, ?_⟩
  refine stB O9 0 #[(sv A30 r25.Code.length c31), (sv A32 r25.Warps.length c33), (sv A34 r25.Memory.length c35), (iv r97.1.Waiting), (iv r97.1.Phase)] (fun w104 P9 e105 => ?_)
  have O4_ := O4.chg e105 N4_9
  have O5_ := O5.chg e105 N5_9
  have O6_ := O6.chg e105 N6_9
  have O7 := (Q7.up O7).chg e105 N7_9
  have O8_ := O8.chg e105 N8_9
  have O10 := (O10.chgS e101 (fun hS_ => hS_.elim N7_10 (N8_10).inb)).chg e105 (N9_10).symm
  have O4 := O4_
  have O5 := O5_
  have O6 := O6_
  have O8 := O8_
  have hB := echg hB e105 L9
  have O9 := P9
  obtain ⟨K152, hKK152, H⟩ := joinP_out H
  refine ⟨fun z_ w_ => ∃ (i106 i107 : Int), z_ = (()) ∧ K152 (i106, i107, ()) ∧ Ext w w_ ∧ Blk w_ g9_ 59 #[(sv A30 r25.Code.length c31), (sv A32 r25.Warps.length c33), (sv A34 r25.Memory.length c35), (iv i106), (iv i107)] ∧ Blk w_ g4_ 59 (bC A0_0 c0_0 A0_1 c0_1 A0_2 c0_2 s0) ∧ Blk w_ g5_ 59 zC ∧ Own el89 w_ w.heap.size A30 c31 r25.Code ∧ OwnW 31 el130 el3 w_ w.heap.size F36 A32 c33 r97.2.1 ∧ Own el3 w_ w.heap.size A34 c35 r97.2.2, ?_, ?_⟩
  ·refine ⟨_, (O10.a 0), ?_⟩
   refine brc H (fun h H => ?_) fun h H => ?_
   ·have O9 := O9.ext (Ext.drew _)
    have hB := ethen hB (Ext.drew _)
    obtain ⟨hc111, H⟩ := H
    refine ⟨hc111, ?_⟩
    refine and_t ?_
    refine ⟨_, (O9.a 3), ?_⟩
    refine and_t ?_
    refine stBlk O9 (o := 3) (cs' := #[(sv A30 r25.Code.length c31), (sv A32 r25.Warps.length c33), (sv A34 r25.Memory.length c35), (iv (bitOr .i64 r97.1.Waiting (wrap .i64 (1 * 2 ^ (min (x1.toNat) (IntKind.bits .i64)))))), (iv r97.1.Phase)]) rfl rfl (Nat.le_of_ble_eq_true rfl) rfl (fun w112 O9 e113 => ?_)
    have O4 := (O4.ext (Ext.drew _)).chg e113 N4_9
    have O5 := (O5.ext (Ext.drew _)).chg e113 N5_9
    have O6 := (O6.ext (Ext.drew _)).chg e113 N6_9
    have O7 := (O7.ext (Ext.drew _)).chg e113 N7_9
    have O8 := (O8.ext (Ext.drew _)).chg e113 N8_9
    have hB := echg hB e113 L9
    exact ⟨_, _, rfl, H, hB, (by first | exact O9 | (simp only [bC, wC, List.length_set, hl102, hl103]; exact O9)), O4, O5, O6, O7, O8⟩
   exact ⟨_, _, rfl, H, hB, (by first | exact O9 | (simp only [bC, wC, List.length_set, hl102, hl103]; exact O9)), O4, O5, O6, O7, O8⟩
  rintro _ w109 ⟨i106, i107, rfl, H, hB, O9, O4, O5, O6, O7, O8⟩
  have H := hKK152 _ H
  try dsimp only at H ⊢
  refine ⟨_, _, _, (O9.a 1), ?_⟩
  obtain ⟨⟨h0_115, h1_116⟩, H⟩ := H
  obtain ⟨g33_, o33_, z33_, A34_, c34_, A35_, c35_, R33_, G36_, hA36, ha36, ho36, O33, O34, O35, O36, hF36, N36_34, N36_35, N36_33, L33⟩ := OwnW.focus O7 h0_115 h1_116 (by decide) (by decide) (by decide)
  have N36_8 := dis_sub N7_8 (hole_sub hF36)
  refine ⟨h0_115, (by first | exact h1_116 | omega | (simp at h1_116 ⊢; omega)), (⟨g33_, z33_, none⟩ : Addr), hA36, ?_⟩
  try dsimp only
  try rw [ha36]
  refine ⟨_, _, _, (O33.a 1), (fun _ => False), _, _, _, noM (O9.a 1), ?_⟩
  obtain ⟨⟨h0_118, h1_119⟩, H⟩ := H
  refine ⟨h0_118, (by first | exact h1_119 | omega | (simp at h1_119 ⊢; omega)), (⟨g33_, z33_, none⟩ : Addr), hA36, ?_⟩
  try dsimp only
  try rw [ha36]
  refine ⟨_, _, _, noM (O33.a 1), _, _, _, noM (O9.a 1), ?_⟩
  obtain ⟨⟨h0_120, h1_121⟩, H⟩ := H
  refine ⟨h0_120, (by first | exact h1_121 | omega | (simp at h1_121 ⊢; omega)), (⟨g33_, z33_, none⟩ : Addr), hA36, ?_⟩
  try dsimp only
  try rw [ha36]
  refine ⟨_, _, _, noM (O33.a 1), ?_⟩
  obtain ⟨⟨h0_125, h1_126⟩, H⟩ := H
  obtain ⟨a123, ha124, hat122⟩ := Row.at O34.row h0_125 h1_126
  refine ⟨h0_125, (by first | exact h1_126 | omega | (simp at h1_126 ⊢; omega)), a123, ha124, _, ⟨(fun h_ => h_), (hat122 0 _ rfl)⟩, ?_⟩
  obtain ⟨⟨h0_130, h1_131⟩, H⟩ := H
  obtain ⟨a128, ha129, hat127⟩ := Row.at O34.row h0_130 h1_131
  refine ⟨h0_130, (by first | exact h1_131 | omega | (simp at h1_131 ⊢; omega)), a128, ha129, ?_⟩
  have O4 := O4.ext (Ext.drew _)
  have O5 := O5.ext (Ext.drew _)
  have O6 := O6.ext (Ext.drew _)
  have O8 := O8.ext (Ext.drew _)
  have O9 := O9.ext (Ext.drew _)
  have O33 := O33.ext (Ext.drew _)
  have O34 := O34.ext (Ext.drew _)
  have O35 := O35.ext (Ext.drew _)
  have O36 := O36.ext (Ext.drew _)
  have hB := ethen hB (Ext.drew _)
  refine Own.stA O34 ha129 h0_130 h1_131 0 (⟨(wrap .i64 ((rd ((rd r97.2.1 x1).Frames) (wrap .i64 (((rd r97.2.1 x1).Frames.length : Int) - 1))).Pc + 1)), (rd ((rd r97.2.1 x1).Frames) (wrap .i64 (((rd r97.2.1 x1).Frames.length : Int) - 1))).Stop, (rd ((rd r97.2.1 x1).Frames) (wrap .i64 (((rd r97.2.1 x1).Frames.length : Int) - 1))).Mask⟩ : D.Frame) (fun w132 P34 e133 hb134 => ?_)
  have O4_ := O4.chg e133 (fun h_ => ((O34.apart_type O4 (by decide))) _ ha129 h_.symm)
  have O5_ := O5.chg e133 (fun h_ => ((O34.apart_type O5 (by decide))) _ ha129 h_.symm)
  have O6_ := O6.chg e133 (((Own.apart2_type O6 O34 (by decide))).left ha129)
  have O8_ := O8.chg e133 (((Own.apart2_type O8 O34 (by decide))).left ha129)
  have O9_ := O9.chg e133 (fun h_ => ((O34.apart_type O9 (by decide))) _ ha129 h_.symm)
  have O33 := O33.chg e133 (fun h_ => ((O34.apart_type O33.b (by decide))) _ ha129 h_.symm)
  have O35_ := O35.chg e133 (((Own.apart2_type O35 O34 (by decide))).left ha129)
  have O36_ := O36.chg e133 (fun h_ => N36_34 _ h_ ⟨_, ha129, rfl⟩)
  have O4 := O4_
  have O9 := O9_
  refine ⟨(fun _ => False), _, _, _, noM (O9.a 1), _, _, _, noM (O4.a 0), _, _, _, noM (O9.a 1), ?_⟩
  obtain ⟨⟨h0_136, h1_137⟩, H⟩ := H
  refine ⟨h0_136, (by first | exact h1_137 | omega | (simp at h1_137 ⊢; omega)), (⟨g33_, z33_, none⟩ : Addr), hA36, ?_⟩
  try dsimp only
  try rw [ha36]
  refine ⟨_, noM (O33.a 0), _, _, _, noM (O33.a 1), _, _, _, noM (O33.a 2), ?_⟩
  have O5 := O5_.ext (Ext.drew _)
  have O6 := O6_.ext (Ext.drew _)
  have O8 := O8_.ext (Ext.drew _)
  have O9 := O9.ext (Ext.drew _)
  have O33 := O33.ext (Ext.drew _)
  have O34 := P34.ext (Ext.drew _)
  have O35 := O35_.ext (Ext.drew _)
  have O36 := O36_.ext (Ext.drew _)
  have hB := ethen (echg hB e133 hb134) (Ext.drew _)
  have hS135 := (Chg.refl (fun _ => False) w132).then (Ext.drew _)
  obtain ⟨hp140, H⟩ := H
  obtain ⟨r138, hr139, H⟩ := callO H
  refine (cllA (spec_DropFrames.con hp140 hr139 (R0_0.ext hB) hc0_0 O34.row O34.le O35.row O35.le)).mono ?_
  rintro _ w141 ⟨A143, c144, A145, c146, rfl, P37, P38, e142⟩
  have N8_37 := aN O8 P37
  have N37_33 := P37.apart_old O33.lt
  have N36_37 := O36.dis_new P37 (Nat.le_refl _)
  have N8_38 := aN O8 P38
  have N38_33 := P38.apart_old O33.lt
  have N36_38 := O36.dis_new P38 (Nat.le_refl _)
  have O5 := O5.ext e142
  have O6 := O6.ext e142
  have O8 := O8.ext e142
  have O9 := O9.ext e142
  have O33 := O33.ext e142
  have O37 := P37.mono hB.size
  have O38 := P38.mono hB.size
  have hB := ethen hB e142
  have hS135 := hS135.then e142
  refine ⟨r138.Number, trivial, A143, r138.Frames.length, c144, trivial, A145, r138.Regs.length, c146, trivial, rfl, sameBut_chg hS135, ?_⟩
  obtain ⟨⟨h0_147, h1_148⟩, H⟩ := H
  refine ⟨h0_147, (by first | exact h1_148 | omega | (simp at h1_148 ⊢; omega)), (⟨g33_, z33_, none⟩ : Addr), hA36, ?_⟩
  try dsimp only
  try rw [ha36]
  refine stPlc O33 (j := 0) (cs' := (wC A143 c144 A145 c146 r138)) rfl rfl (Nat.le_of_ble_eq_true rfl) rfl (fun w149 P33 e150 => ?_)
  have O5 := O5.chg e150 (Blk.ne_type O5 O33.b (by decide))
  have O6 := O6.chg e150 (O6.apart_type O33.b (by decide))
  have O8 := O8.chg e150 (O8.apart_type O33.b (by decide))
  have O9 := O9.chg e150 (Blk.ne_type O9 O33.b (by decide))
  have O36 := (O36.ext e142).chg e150 N36_33
  have O37 := O37.chg e150 N37_33
  have O38 := O38.chg e150 N38_33
  have hB := echg hB e150 L33
  have O33 := P33
  have O7 := (HoleW.back O36 hA36 ho36 O33 O37 O38 rfl rfl O37.low O38.low (by decide) (by decide) (by decide) N36_37 N36_38)
  have N7_8 := dis_back (dis_A hA36 (O8.apart_type O33.b (by decide))) N36_8 (N8_37).symm (N8_38).symm
  exact ⟨i106, i107, _, _, (fun k => G36_ k ∨ InB A143 k ∨ InB A145 k), rfl, H, hB, (by first | exact O9 | (simp only [bC, wC, List.length_set, hl103]; exact O9)), O7, (by first | rfl | assumption | omega | (simp; done) | (simp; omega) | (simp; assumption)), N7_8, O8, (by first | rfl | assumption | omega | (simp; done) | (simp; omega) | (simp; assumption)), O5, O6⟩
 rintro _ w58 ⟨i50, i51, xs52, xs55, F53, rfl, H, hB, O9, O7, hn54, N7_8, O8, hn56, O5, O6⟩
 have H := hKK169 _ H
 try dsimp only at H ⊢
 refine ⟨_, _, _, (O9.a 0), _, _, _, (O9.a 1), _, _, _, (O9.a 2), _, (O9.a 3), _, (O9.a 4), ?_⟩
 obtain ⟨hp156, H⟩ := H
 obtain ⟨r154, hr155, H⟩ := callO H
 refine (cllArgs (by first | (simp only [bC, wC, List.length_set, ← hn54, ← hn56]; done) | (simp; done)) (spec_l30All.con hp156 hr155 O6.row O6.le O7.row O7.le O8.row O8.le)).mono ?_
 rintro _ w157 ⟨rfl, e158⟩
 have O5 := O5.ext e158
 have O6 := O6.ext e158
 have O7 := O7.ext e158
 have O8 := O8.ext e158
 have O9 := O9.ext e158
 have hB := ethen hB e158
 refine ⟨r154, rfl, ?_⟩
 refine brc H (fun h H => ?_) fun h H => ?_
 ·refine stB O9 3 #[(sv A30 r25.Code.length c31), (sv A32 r25.Warps.length c33), (sv A34 r25.Memory.length c35), (iv 0), (iv i51)] (fun w159 P9 e160 => ?_)
  have O5_ := O5.chg e160 N5_9
  have O6_ := O6.chg e160 N6_9
  have O7_ := O7.chg e160 (O7.dis_blk O9 (by decide) (by decide) (by decide))
  have O8_ := O8.chg e160 N8_9
  have O6 := O6_
  have O7 := O7_
  have O8 := O8_
  have hB := echg hB e160 L9
  have O9 := P9
  refine ⟨_, (O9.a 4), ?_⟩
  refine stB O9 4 #[(sv A30 r25.Code.length c31), (sv A32 r25.Warps.length c33), (sv A34 r25.Memory.length c35), (iv 0), (iv (wrap .i64 (i51 + 1)))] (fun w161 P9 e162 => ?_)
  have O5 := O5_.chg e162 N5_9
  have O6_ := O6.chg e162 N6_9
  have O7_ := O7.chg e162 (O7.dis_blk O9 (by decide) (by decide) (by decide))
  have O8_ := O8.chg e162 N8_9
  have O7 := O7_
  have hB := echg hB e162 L9
  have O9 := P9
  refine ⟨_, _, _, (O9.a 0), _, _, _, (O9.a 1), _, _, _, (O9.a 2), _, (O9.a 3), _, (O9.a 4), ?_⟩
  refine stB O5 0 #[(sv A30 r25.Code.length c31), (sv A32 r25.Warps.length c33), (sv A34 r25.Memory.length c35), (iv 0), (iv (wrap .i64 (i51 + 1)))] (fun w163 P5 e164 => ?_)
  have O6 := O6_.chg e164 N6_5
  have O7 := O7.chg e164 (O7.dis_blk O5 (by decide) (by decide) (by decide))
  have O8 := O8_.chg e164 N8_5
  have hB := echg hB e164 L5
  have O5 := P5
  refine ⟨_, _, _, (O5.a 0), _, _, _, (O5.a 1), _, _, _, (O5.a 2), _, (O5.a 3), _, (O5.a 4), ?_⟩
  cases hr.trans H.symm
  exact ⟨A30, c31, A32, c33, F53, A34, c35, (by first | rfl | (rw [hn54, hn56]; done) | (simp; done) | (simp; omega) | (simp [*]; done)), (by first | exact O6 | (simp only [bC, wC, List.length_set]; exact O6) | (rw [← hn54, ← hn56]; exact O6)), (by first | exact O7 | (simp only [bC, wC, List.length_set]; exact O7) | (rw [← hn54, ← hn56]; exact O7)), (by first | exact O8 | (simp only [bC, wC, List.length_set]; exact O8) | (rw [← hn54, ← hn56]; exact O8)), N7_8, hB⟩
 refine ⟨_, _, _, (O9.a 0), _, _, _, (O9.a 1), _, _, _, (O9.a 2), _, (O9.a 3), _, (O9.a 4), ?_⟩
 refine stB O5 0 #[(sv A30 r25.Code.length c31), (sv A32 r25.Warps.length c33), (sv A34 r25.Memory.length c35), (iv i50), (iv i51)] (fun w165 P5 e166 => ?_)
 have O6 := O6.chg e166 N6_5
 have O7 := O7.chg e166 (O7.dis_blk O5 (by decide) (by decide) (by decide))
 have O8 := O8.chg e166 N8_5
 have hB := echg hB e166 L5
 have O5 := P5
 refine ⟨_, _, _, (O5.a 0), _, _, _, (O5.a 1), _, _, _, (O5.a 2), _, (O5.a 3), _, (O5.a 4), ?_⟩
 cases hr.trans H.symm
 exact ⟨A30, c31, A32, c33, F53, A34, c35, (by first | rfl | (rw [hn54, hn56]; done) | (simp; done) | (simp; omega) | (simp [*]; done)), (by first | exact O6 | (simp only [bC, wC, List.length_set]; exact O6) | (rw [← hn54, ← hn56]; exact O6)), (by first | exact O7 | (simp only [bC, wC, List.length_set]; exact O7) | (rw [← hn54, ← hn56]; exact O7)), (by first | exact O8 | (simp only [bC, wC, List.length_set]; exact O8) | (rw [← hn54, ← hn56]; exact O8)), N7_8, hB⟩
def impl_Block_access.vc (p0 : Addr) (x1 x2_0 x2_1 x2_2 x2_3 : Int) (w : World) (K : VK) : Prop :=
  newK w (.cells #[(iv x2_0), (iv x2_1), (iv x2_2), (iv x2_3)] 89) fun g21 w22 => ldS w22 ((p0.add 1).add 0) fun A23 n24 c25 => (idx x1 n24 A23 fun a26 => ldI w22 ((a26.add ((x1.toNat) * 3)).add 0) fun n27 => ldS w22 ((a26.add ((x1.toNat) * 3)).add 1) fun A28 n29 c30 => ldS w22 ((a26.add ((x1.toNat) * 3)).add 2) fun A31 n32 c33 => Cl 92 #[(.agg #[(iv n27), (sv A28 n29 c30), (sv A31 n32 c33)])] w22 fun v34 w35 => (∃ (n36 : Int), v34 = (iv n36) ∧ Cl 170 #[(iv n36)] w35 fun v37 w38 => (∃ (A39 : OA) (n40 c41 : Nat), v37 = (sv A39 n40 c41) ∧ LoopT (σ := Int × Unit) (fun z42 w43 next44 => bcase (decide (z42.1 < ((n40 : Nat) : Int))) ((idx z42.1 n40 A39 fun a45 => ldI w43 ((a45.add ((z42.1.toNat) * 1)).add 0) fun n46 => ldS w43 ((p0.add 1).add 0) fun A47 n48 c49 => (idx x1 n48 A47 fun a50 => ldI w43 ((a50.add ((x1.toNat) * 3)).add 0) fun n51 => ldS w43 ((a50.add ((x1.toNat) * 3)).add 1) fun A52 n53 c54 => ldS w43 ((a50.add ((x1.toNat) * 3)).add 2) fun A55 n56 c57 => Cl 171 #[(.agg #[(iv n51), (sv A52 n53 c54), (sv A55 n56 c57)]), (iv n46)] w43 fun v58 w59 => (∃ (A60 : OA) (n61 c62 : Nat), v58 = (sv A60 n61 c62) ∧ ldI w59 (((bx g21).add 0).add 0) fun n63 => bcase (n63 == 13) ((∃ M64 : Nat → Prop, ldIM M64 w59 ((bx g21).add 1) 0 fun n65 => ldSM M64 w59 (p0.add 2) 0 fun A66 n67 c68 => ldIM M64 w59 ((bx g21).add 2) 0 fun n69 => (idx n69 n61 A60 fun a70 => ldIM M64 w59 (a70.add ((n69.toNat) * 1)) 0 fun n71 => ((32 : Int) ≠ 0 ∧ (idx (Int.tmod n71 32) n67 A66 fun a72 => ldIM M64 w59 (a72.add (((Int.tmod n71 32).toNat) * 1)) 0 fun n73 => (idx n65 n61 A60 fun a74 => stCells (a74.add ((n65.toNat) * 1)) [(iv n73)] 0 w59.drew fun w75 => next44 ((wrap .i64 (z42.1 + 1)), ()) w75)))))) (bcase (n63 == 14) ((∃ M76 : Nat → Prop, ldSM M76 w59 (p0.add 2) 0 fun A77 n78 c79 => ldIM M76 w59 ((bx g21).add 1) 0 fun n80 => (idx n80 n61 A60 fun a81 => ldIM M76 w59 (a81.add ((n80.toNat) * 1)) 0 fun n82 => ((32 : Int) ≠ 0 ∧ ldIM M76 w59 ((bx g21).add 2) 0 fun n83 => (idx n83 n61 A60 fun a84 => ldIM M76 w59 (a84.add ((n83.toNat) * 1)) 0 fun n85 => (idx (Int.tmod n82 32) n78 A77 fun a86 => stCells (a86.add (((Int.tmod n82 32).toNat) * 1)) [(iv n85)] 0 w59.drew fun w87 => next44 ((wrap .i64 (z42.1 + 1)), ()) w87)))))) (bcase (n63 == 15) (ldI w59 (((bx g21).add 1).add 0) fun n88 => (idx n88 n61 A60 fun a89 => ldI w59 ((a89.add ((n88.toNat) * 1)).add 0) fun n90 => ((32 : Int) ≠ 0 ∧ (∃ M91 : Nat → Prop, ldSM M91 w59 (p0.add 2) 0 fun A92 n93 c94 => ldSM M91 w59 (p0.add 2) 0 fun A95 n96 c97 => (idx (Int.tmod n90 32) n96 A95 fun a98 => ldIM M91 w59 (a98.add (((Int.tmod n90 32).toNat) * 1)) 0 fun n99 => ldIM M91 w59 ((bx g21).add 2) 0 fun n100 => (idx n100 n61 A60 fun a101 => ldIM M91 w59 (a101.add ((n100.toNat) * 1)) 0 fun n102 => Cl 218 #[(iv n99), (iv n102)] w59.drew fun v103 w104 => (∃ (n105 : Int), v103 = (iv n105) ∧ SameBut M91 w59 w104 ∧ (idx (Int.tmod n90 32) n93 A92 fun a106 => stCells (a106.add (((Int.tmod n90 32).toNat) * 1)) [(iv n105)] 0 w104 fun w107 => next44 ((wrap .i64 (z42.1 + 1)), ()) w107)))))))) (next44 ((wrap .i64 (z42.1 + 1)), ()) w59))))))) (K (.tuple #[]) w43)) (0, ()) w38)))

def impl_Block_access.ann : Ann := (.seq .l (.seq .l (.one (.loop [(20, .int .i64)] (.seq .l (.seq (.two .l .l) (.seq (.one (.seq .l (.seq .l (.seq .l (.one (.seq .l (.two .l (.seq .l (.two .l (.seq .l (.two (.seq .l .l) .l))))))))))) .l)))))))

theorem impl_Block_access.con {s0 r : D.Block} {g1_ c0_0 c0_1 c0_2 : Nat} {A0_0 A0_1 A0_2 : OA} {F0_1 : Nat → Prop} {x1 : Int} {s2 : D.Ins} {w : World} (hp : M.impl_Block_access_pre s0 x1 s2) (hr : r = M.impl_Block_access s0 x1 s2) (O1 : Blk w g1_ 59 (bC A0_0 c0_0 A0_1 c0_1 A0_2 c0_2 s0)) (R0_0 : Row el89 w A0_0 s0.Code) (hc0_0 : s0.Code.length ≤ c0_0) (O3 : OwnW 31 el130 el3 w 0 F0_1 A0_1 c0_1 s0.Warps) (O4 : Own el3 w 0 A0_2 c0_2 s0.Memory) (N3_4 : Dis (InW A0_1 F0_1) (InB A0_2)) (D0_0 : s0.Code ≠ [] → ∀ g, InB A0_0 g → ¬ (fun k_ => InW A0_1 F0_1 k_ ∨ InB A0_2 k_ ∨ k_ = g1_) g) :
    Cl 178 #[(.pointer (some (bx g1_))), (iv x1), (.agg (iC s2))] w (fun v_ w_ => ∃ (A0_ : OA) (c0_ : Nat) (F0_ : Nat → Prop), v_ = (.tuple #[]) ∧ Blk w_ g1_ 59 #[(sv A0_0 r.Code.length c0_0), (sv A0_ r.Warps.length c0_), (sv A0_2 s0.Memory.length c0_2), (iv r.Waiting), (iv r.Phase)] ∧ r.Code = s0.Code ∧ OwnW 31 el130 el3 w_ 0 F0_ A0_ c0_ r.Warps ∧ MovW w (InW A0_1 F0_1) (InW A0_ F0_) ∧ Own el3 w_ 0 A0_2 c0_2 r.Memory ∧ r.Memory.length = s0.Memory.length ∧ Chg (fun k_ => InW A0_1 F0_1 k_ ∨ InB A0_2 k_ ∨ k_ = g1_) w w_) := by
 have H := wp.impl_Block_access.math s0 x1 s2 hp
 refine begK mixed Tryz.f178 ann (vc (bx g1_) x1 s2.Op s2.A s2.B s2.C) ?_
 unfold vc
 unfold wp.impl_Block_access at H
 have LM3 := MovW.refl w (InW A0_1 F0_1)
 refine newBlk (fun g5_ w21 L5 O5 e22 => ?_)
 have N4_5 := O4.apart_new L5
 have O1 := O1.ext e22
 have O3 := O3.ext e22
 refine ⟨_, _, _, (O1.a 1), ?_⟩
 obtain ⟨⟨h0_23, h1_24⟩, H⟩ := H
 obtain ⟨g6_, o6_, z6_, A7_, c7_, A8_, c8_, R6_, G9_, hA9, ha9, ho9, O6, O7, O8, O9, hF9, N9_7, N9_8, N9_6, L6⟩ := OwnW.focus O3 h0_23 h1_24 (by decide) (by decide) (by decide)
 have N9_4 := dis_sub N3_4 (hole_sub hF9)
 have N8_4 := dis_ap2 (dis_sub N3_4 (r_sub hF9))
 refine ⟨h0_23, h1_24, (⟨g6_, z6_, none⟩ : Addr), hA9, ?_⟩
 try dsimp only
 try rw [ha9]
 refine ⟨_, (O6.a 0), _, _, _, (O6.a 1), _, _, _, (O6.a 2), ?_⟩
 obtain ⟨hp27, H⟩ := H
 obtain ⟨r25, hr26, H⟩ := callO H
 refine (cllA (impl_ActiveMask.con hp27 hr26 O7.row O7.le O8.row O8.le)).mono ?_
 rintro _ w28 ⟨rfl, e29⟩
 have O4 := (O4.ext e22).ext e29
 have O6 := O6.ext e29
 have O7 := O7.ext e29
 have O8 := O8.ext e29
 have O9 := O9.ext e29
 have hB := ((Chg.refl (fun k_ => InW A0_1 F0_1 k_ ∨ InB A0_2 k_ ∨ k_ = g1_) w).then e22).then e29
 refine ⟨r25, rfl, ?_⟩
 obtain ⟨r30, hr31, H⟩ := callO H
 refine (impl_LanesOf.con hr31 ).mono ?_
 rintro _ w33 ⟨A35, c36, rfl, P10, e34⟩
 have N4_10 := aN O4 P10
 have N10_6 := P10.apart_old O6.lt
 have N7_10 := aN O7 P10
 have N8_10 := aN O8 P10
 have N9_10 := O9.dis_new P10 (Nat.le_refl _)
 have O1 := (O1.ext e29).ext e34
 have O4 := O4.ext e34
 have O5 := (O5.ext e29).ext e34
 have O6 := O6.ext e34
 have O7 := O7.ext e34
 have O8 := O8.ext e34
 have O9 := O9.ext e34
 have O10 := P10.mono hB.size
 have hB := hB.then e34
 refine ⟨A35, r30.length, c36, rfl, ?_⟩
 have O3 := ((HoleW.back O9 hA9 ho9 O6 O7 O8 (by first | rfl | (simp only [bC, wC, List.length_set]; done) | (simp; done) | (simp; omega)) (by first | rfl | (simp only [bC, wC, List.length_set]; done) | (simp; done) | (simp; omega)) (fun _ _ => Nat.zero_le _) (fun _ _ => Nat.zero_le _) (by decide) (by decide) (by decide) N9_7 N9_8).sameF hF9).unset
 have N3_4 := dis_sub (dis_back (dis_A hA9 (O4.apart_type O6.b (by decide))) N9_4 (Own.apart2_type O7 O4 (by decide)) N8_4) (sameF_sub hF9)
 have N3_10 := dis_sub (dis_back (dis_A hA9 N10_6) N9_10 N7_10 N8_10) (sameF_sub hF9)
 obtain ⟨J148, ⟨m273, hJ272⟩, hS149⟩ := H
 refine ⟨fun m_ z_ w_ => ∃ (i141 : Int) (xs142 : List D.Warp) (xs145 : List Int) (F143 : Nat → Prop), z_ = (i141, ()) ∧ J148 m_ (i141, xs142, xs145, ()) ∧ Chg (fun k_ => InW A0_1 F0_1 k_ ∨ InB A0_2 k_ ∨ k_ = g1_) w w_ ∧ OwnW 31 el130 el3 w_ 0 F143 A0_1 c0_1 xs142 ∧ s0.Warps.length = xs142.length ∧ MovW w (InW A0_1 F0_1) (InW A0_1 F143) ∧ Dis (InW A0_1 F143) (InB A0_2) ∧ Dis (InW A0_1 F143) (InB A35) ∧ Own el3 w_ 0 A0_2 c0_2 xs145 ∧ s0.Memory.length = xs145.length ∧ Blk w_ g1_ 59 (bC A0_0 c0_0 A0_1 c0_1 A0_2 c0_2 s0) ∧ Blk w_ g5_ 89 (iC s2) ∧ Own el3 w_ w.heap.size A35 c36 r30, ⟨m273, 0, s0.Warps, s0.Memory, F0_1, rfl, hJ272, hB, O3, (by first | rfl | assumption | omega | (simp; done) | (simp; omega) | (simp; assumption)), LM3, N3_4, N3_10, O4, (by first | rfl | assumption | omega | (simp; done) | (simp; omega) | (simp; assumption)), O1, O5, O10⟩, ?_⟩
 rintro m147 _ w151 ⟨i141, xs142, xs145, F143, rfl, hJ274, hB, O3, hn144, LM3, N3_4, N3_10, O4, hn146, O1, O5, O10⟩
 have H := hS149 m147 _ hJ274
 clear hS149 hJ274
 try dsimp only at H ⊢
 refine brc H (fun h H => ?_) fun h H => ?_
 ·obtain ⟨⟨h0_155, h1_156⟩, H⟩ := H
  obtain ⟨a153, ha154, hat152⟩ := Row.at O10.row h0_155 h1_156
  refine ⟨h0_155, h1_156, a153, ha154, _, (hat152 0 _ rfl), _, _, _, (O1.a 1), ?_⟩
  obtain ⟨⟨h0_157, h1_158⟩, H⟩ := H
  obtain ⟨g21_, o21_, z21_, A22_, c22_, A23_, c23_, R21_, G24_, hA24, ha24, ho24, O21, O22, O23, O24, hF24, N24_22, N24_23, N24_21, L21⟩ := OwnW.focus O3 h0_157 h1_158 (by decide) (by decide) (by decide)
  have LM23 := LM3.sub (r_sub hF24)
  have N24_4 := dis_sub N3_4 (hole_sub hF24)
  have N23_4 := dis_ap2 (dis_sub N3_4 (r_sub hF24))
  have N24_10 := dis_sub N3_10 (hole_sub hF24)
  have N23_10 := dis_ap2 (dis_sub N3_10 (r_sub hF24))
  refine ⟨h0_157, (by first | exact h1_158 | omega | (simp at h1_158 ⊢; omega)), (⟨g21_, z21_, none⟩ : Addr), hA24, ?_⟩
  try dsimp only
  try rw [ha24]
  refine ⟨_, (O21.a 0), _, _, _, (O21.a 1), _, _, _, (O21.a 2), ?_⟩
  obtain ⟨hp159, H⟩ := H
  refine (cllA (impl_Warp_lane.con hp159 O22.row O22.le O23.row O23.le)).mono ?_
  rintro _ w160 ⟨rfl, e161⟩
  have O1 := O1.ext e161
  have O4 := O4.ext e161
  have O5 := O5.ext e161
  have O10 := O10.ext e161
  have O21 := O21.ext e161
  have O22 := O22.ext e161
  have O23 := O23.ext e161
  have O24 := O24.ext e161
  have hB := hB.then e161
  have hv25_ : ((wrap .i64 ((rd r30 i141) * 4)).toNat) ≤ (List.take ((wrap .i64 ((wrap .i64 ((rd r30 i141) + 1)) * 4)).toNat) ((rd xs142 x1).Regs)).length := impl_Warp_lane.cut hp159
  have O25 := (O23.take ((wrap .i64 ((wrap .i64 ((rd r30 i141) + 1)) * 4)).toNat)).drop (l := ((wrap .i64 ((rd r30 i141) * 4)).toNat)) hv25_
  refine ⟨(cutA c23_ ((wrap .i64 ((rd r30 i141) * 4)).toNat) A23_ 1), (List.drop ((wrap .i64 ((rd r30 i141) * 4)).toNat) (List.take ((wrap .i64 ((wrap .i64 ((rd r30 i141) + 1)) * 4)).toNat) ((rd xs142 x1).Regs))).length, (c23_ - ((wrap .i64 ((rd r30 i141) * 4)).toNat)), rfl, _, (O5.a 0), ?_⟩
  refine brc H (fun h H => ?_) fun h H => ?_
  ·refine ⟨(fun _ => False), _, noM (O5.a 1), _, _, _, noM (O1.a 2), _, noM (O5.a 2), ?_⟩
   obtain ⟨⟨h0_166, h1_167⟩, H⟩ := H
   obtain ⟨a164, ha165, hat163⟩ := Row.at O25.row h0_166 h1_167
   refine ⟨h0_166, h1_167, a164, ha165, _, ⟨(fun h_ => h_), (hat163 0 _ rfl)⟩, by decide, ?_⟩
   obtain ⟨⟨h0_172, h1_173⟩, H⟩ := H
   obtain ⟨a170, ha171, hat169⟩ := Row.at O4.row h0_172 h1_173
   refine ⟨h0_172, (by first | exact h1_173 | omega | (simp at h1_173 ⊢; omega)), a170, ha171, _, ⟨(fun h_ => h_), (hat169 0 _ rfl)⟩, ?_⟩
   obtain ⟨⟨h0_177, h1_178⟩, H⟩ := H
   obtain ⟨a175, ha176, hat174⟩ := Row.at O25.row h0_177 h1_178
   refine ⟨h0_177, h1_178, a175, ha176, ?_⟩
   have O1 := O1.ext (Ext.drew _)
   have O5 := O5.ext (Ext.drew _)
   have O21 := O21.ext (Ext.drew _)
   have O22 := O22.ext (Ext.drew _)
   have O23 := O23.ext (Ext.drew _)
   refine Own.storeCut (hi := ((wrap .i64 ((wrap .i64 ((rd r30 i141) + 1)) * 4)).toNat)) O23 ha176 h0_177 h1_178 0 [(iv (rd xs145 (Int.tmod (rd (List.drop ((wrap .i64 ((rd r30 i141) * 4)).toNat) (List.take ((wrap .i64 ((wrap .i64 ((rd r30 i141) + 1)) * 4)).toNat) ((rd xs142 x1).Regs))) s2.B) 32)))] (rd xs145 (Int.tmod (rd (List.drop ((wrap .i64 ((rd r30 i141) * 4)).toNat) (List.take ((wrap .i64 ((wrap .i64 ((rd r30 i141) + 1)) * 4)).toNat) ((rd xs142 x1).Regs))) s2.B) 32)) rfl (Nat.le_of_ble_eq_true rfl) rfl (fun w179 P23 e180 hb181 => ?_)
   obtain ⟨b182, hb183, hbe184⟩ := cut_blk ha176
   rw [← hbe184] at e180 hb181
   have O1 := O1.chg e180 (fun h_ => ((O23.apart_type O1 (by decide))) _ hb183 h_.symm)
   have O4 := (O4.ext (Ext.drew _)).chg e180 (((N23_4).symm).left hb183)
   have O5 := O5.chg e180 (fun h_ => ((O23.apart_type O5 (by decide))) _ hb183 h_.symm)
   have O10 := (O10.ext (Ext.drew _)).chg e180 (((N23_10).symm).left hb183)
   have O21 := O21.chg e180 (fun h_ => ((O23.apart_type O21.b (by decide))) _ hb183 h_.symm)
   have O22 := O22.chg e180 (((Own.apart2_type O22 O23 (by decide))).left hb183)
   have O24 := (O24.ext (Ext.drew _)).chg e180 (fun h_ => N24_23 _ h_ ⟨_, hb183, rfl⟩)
   have hB := (hB.then (Ext.drew _)).chgb e180 ((LM23 _ ⟨_, hb183, rfl⟩).elim (fun h4_ => Or.inr (Or.inl h4_)) Or.inl)
   have O23 := P23
   have O3 := (HoleW.back O24 hA24 ho24 O21 O22 O23 (by first | rfl | (simp only [bC, wC, List.length_set]; done) | (simp; done) | (simp; omega)) (by first | rfl | (simp only [bC, wC, List.length_set]; done) | (simp; done) | (simp; omega)) (fun _ _ => Nat.zero_le _) (fun _ _ => Nat.zero_le _) (by decide) (by decide) (by decide) N24_22 N24_23).sameF hF24
   have N3_4 := dis_sub (dis_back (dis_A hA24 (O4.apart_type O21.b (by decide))) N24_4 (Own.apart2_type O22 O4 (by decide)) N23_4) (sameF_sub hF24)
   have N3_10 := dis_sub (dis_back (dis_A hA24 (O10.apart_type O21.b (by decide))) N24_10 (Own.apart2_type O22 O10 (by decide)) N23_10) (sameF_sub hF24)
   obtain ⟨m185, hm186, hJ187⟩ := H
   exact ⟨m185, hm186, _, _, _, F143, rfl, hJ187, hB, O3, (by first | rfl | assumption | omega | (simp; done) | (simp; omega) | (simp; assumption)), LM3, N3_4, N3_10, O4, (by first | rfl | assumption | omega | (simp; done) | (simp; omega) | (simp; assumption)), (by first | exact O1 | (simp only [bC, wC, List.length_set, ← hn146]; exact O1)), O5, O10⟩
  refine brc H (fun h H => ?_) fun h H => ?_
  ·refine ⟨(fun _ => False), _, _, _, noM (O1.a 2), _, noM (O5.a 1), ?_⟩
   obtain ⟨⟨h0_192, h1_193⟩, H⟩ := H
   obtain ⟨a190, ha191, hat189⟩ := Row.at O25.row h0_192 h1_193
   refine ⟨h0_192, h1_193, a190, ha191, _, ⟨(fun h_ => h_), (hat189 0 _ rfl)⟩, by decide, _, noM (O5.a 2), ?_⟩
   obtain ⟨⟨h0_198, h1_199⟩, H⟩ := H
   obtain ⟨a196, ha197, hat195⟩ := Row.at O25.row h0_198 h1_199
   refine ⟨h0_198, h1_199, a196, ha197, _, ⟨(fun h_ => h_), (hat195 0 _ rfl)⟩, ?_⟩
   obtain ⟨⟨h0_203, h1_204⟩, H⟩ := H
   obtain ⟨a201, ha202, hat200⟩ := Row.at O4.row h0_203 h1_204
   refine ⟨h0_203, (by first | exact h1_204 | omega | (simp at h1_204 ⊢; omega)), a201, ha202, ?_⟩
   have O1 := O1.ext (Ext.drew _)
   have O4 := O4.ext (Ext.drew _)
   have O21 := O21.ext (Ext.drew _)
   have O22 := O22.ext (Ext.drew _)
   refine Own.stA O4 ha202 h0_203 h1_204 0 (rd (List.drop ((wrap .i64 ((rd r30 i141) * 4)).toNat) (List.take ((wrap .i64 ((wrap .i64 ((rd r30 i141) + 1)) * 4)).toNat) ((rd xs142 x1).Regs))) s2.B) (fun w205 P4 e206 hb207 => ?_)
   have O1 := O1.chg e206 (fun h_ => ((O4.apart_type O1 (by decide))) _ ha202 h_.symm)
   have O5 := (O5.ext (Ext.drew _)).chg e206 (fun h_ => (N4_5) _ ha202 h_.symm)
   have O10 := (O10.ext (Ext.drew _)).chg e206 (((N4_10).symm).left ha202)
   have O21 := O21.chg e206 (fun h_ => ((O4.apart_type O21.b (by decide))) _ ha202 h_.symm)
   have O22 := O22.chg e206 (((Own.apart2_type O22 O4 (by decide))).left ha202)
   have O23 := (O23.ext (Ext.drew _)).chg e206 ((N23_4).left ha202)
   have O24 := (O24.ext (Ext.drew _)).chg e206 (fun h_ => N24_4 _ h_ ⟨_, ha202, rfl⟩)
   have hB := (hB.then (Ext.drew _)).chgb e206 (Or.inr (Or.inr (Or.inl ⟨_, ha202, rfl⟩)))
   have O4 := P4
   have O3 := ((HoleW.back O24 hA24 ho24 O21 O22 O23 (by first | rfl | (simp only [bC, wC, List.length_set]; done) | (simp; done) | (simp; omega)) (by first | rfl | (simp only [bC, wC, List.length_set]; done) | (simp; done) | (simp; omega)) (fun _ _ => Nat.zero_le _) (fun _ _ => Nat.zero_le _) (by decide) (by decide) (by decide) N24_22 N24_23).sameF hF24).unset
   have N3_4 := dis_sub (dis_back (dis_A hA24 (O4.apart_type O21.b (by decide))) N24_4 (Own.apart2_type O22 O4 (by decide)) N23_4) (sameF_sub hF24)
   have N3_10 := dis_sub (dis_back (dis_A hA24 (O10.apart_type O21.b (by decide))) N24_10 (Own.apart2_type O22 O10 (by decide)) N23_10) (sameF_sub hF24)
   obtain ⟨m208, hm209, hJ210⟩ := H
   exact ⟨m208, hm209, _, _, _, F143, rfl, hJ210, hB, O3, (by first | rfl | assumption | omega | (simp; done) | (simp; omega) | (simp; assumption)), LM3, N3_4, N3_10, O4, (by first | rfl | assumption | omega | (simp; done) | (simp; omega) | (simp; assumption)), (by first | exact O1 | (simp only [bC, wC, List.length_set, ← hn146]; exact O1)), O5, O10⟩
  refine brc H (fun h H => ?_) fun h H => ?_
  ·refine ⟨_, (O5.a 1), ?_⟩
   obtain ⟨⟨h0_214, h1_215⟩, H⟩ := H
   obtain ⟨a212, ha213, hat211⟩ := Row.at O25.row h0_214 h1_215
   refine ⟨h0_214, h1_215, a212, ha213, _, (hat211 0 _ rfl), by decide, (fun _ => False), ?_⟩
   have hBz := hB
   have Z4 := O4
   refine ⟨_, _, _, noM (O1.a 2), _, _, _, noM (O1.a 2), ?_⟩
   obtain ⟨⟨h0_241, h1_242⟩, H⟩ := H
   obtain ⟨a239, ha240, hat238⟩ := Row.at O4.row h0_241 h1_242
   refine ⟨h0_241, (by first | exact h1_242 | omega | (simp at h1_242 ⊢; omega)), a239, ha240, _, ⟨(fun h_ => h_), (hat238 0 _ rfl)⟩, _, noM (O5.a 2), ?_⟩
   obtain ⟨⟨h0_246, h1_247⟩, H⟩ := H
   obtain ⟨a244, ha245, hat243⟩ := Row.at O25.row h0_246 h1_247
   refine ⟨h0_246, h1_247, a244, ha245, _, ⟨(fun h_ => h_), (hat243 0 _ rfl)⟩, ?_⟩
   have O1 := O1.ext (Ext.drew _)
   have O4 := O4.ext (Ext.drew _)
   have O5 := O5.ext (Ext.drew _)
   have O10 := O10.ext (Ext.drew _)
   have O21 := O21.ext (Ext.drew _)
   have O22 := O22.ext (Ext.drew _)
   have O23 := O23.ext (Ext.drew _)
   have O24 := O24.ext (Ext.drew _)
   have hB := hB.then (Ext.drew _)
   have hS217 := (Chg.refl (fun _ => False) w160).then (Ext.drew _)
   obtain ⟨r248, hr249, H⟩ := callO H
   refine (impl_AddWords.con hr249 ).mono ?_
   rintro _ w251 ⟨rfl, e252⟩
   have O1 := O1.ext e252
   have O4 := O4.ext e252
   have O21 := O21.ext e252
   have O22 := O22.ext e252
   have hS217 := hS217.then e252
   refine ⟨r248, rfl, sameBut_chg hS217, ?_⟩
   obtain ⟨⟨h0_256, h1_257⟩, H⟩ := H
   obtain ⟨a254, ha255, hat253⟩ := Row.at Z4.row h0_256 h1_257
   refine ⟨h0_256, (by first | exact h1_257 | omega | (simp at h1_257 ⊢; omega)), a254, ha255, ?_⟩
   refine Own.stA O4 ha255 h0_256 h1_257 0 r248 (fun w258 P4 e259 hb260 => ?_)
   have O1 := O1.chg e259 (fun h_ => ((O4.apart_type O1 (by decide))) _ ha255 h_.symm)
   have O5 := (O5.ext e252).chg e259 (fun h_ => (N4_5) _ ha255 h_.symm)
   have O10 := (O10.ext e252).chg e259 (((N4_10).symm).left ha255)
   have O21 := O21.chg e259 (fun h_ => ((O4.apart_type O21.b (by decide))) _ ha255 h_.symm)
   have O22 := O22.chg e259 (((Own.apart2_type O22 O4 (by decide))).left ha255)
   have O23 := (O23.ext e252).chg e259 ((N23_4).left ha255)
   have O24 := (O24.ext e252).chg e259 (fun h_ => N24_4 _ h_ ⟨_, ha255, rfl⟩)
   have hB := (hB.then e252).chgb e259 (Or.inr (Or.inr (Or.inl ⟨_, ha255, rfl⟩)))
   have O4 := P4
   have O3 := ((HoleW.back O24 hA24 ho24 O21 O22 O23 (by first | rfl | (simp only [bC, wC, List.length_set]; done) | (simp; done) | (simp; omega)) (by first | rfl | (simp only [bC, wC, List.length_set]; done) | (simp; done) | (simp; omega)) (fun _ _ => Nat.zero_le _) (fun _ _ => Nat.zero_le _) (by decide) (by decide) (by decide) N24_22 N24_23).sameF hF24).unset
   have N3_4 := dis_sub (dis_back (dis_A hA24 (O4.apart_type O21.b (by decide))) N24_4 (Own.apart2_type O22 O4 (by decide)) N23_4) (sameF_sub hF24)
   have N3_10 := dis_sub (dis_back (dis_A hA24 (O10.apart_type O21.b (by decide))) N24_10 (Own.apart2_type O22 O10 (by decide)) N23_10) (sameF_sub hF24)
   obtain ⟨m261, hm262, hJ263⟩ := H
   exact ⟨m261, hm262, _, _, _, F143, rfl, hJ263, hB, O3, (by first | rfl | assumption | omega | (simp; done) | (simp; omega) | (simp; assumption)), LM3, N3_4, N3_10, O4, (by first | rfl | assumption | omega | (simp; done) | (simp; omega) | (simp; assumption)), (by first | exact O1 | (simp only [bC, wC, List.length_set, ← hn146]; exact O1)), O5, O10⟩
  have O3 := ((HoleW.back O24 hA24 ho24 O21 O22 O23 (by first | rfl | (simp only [bC, wC, List.length_set]; done) | (simp; done) | (simp; omega)) (by first | rfl | (simp only [bC, wC, List.length_set]; done) | (simp; done) | (simp; omega)) (fun _ _ => Nat.zero_le _) (fun _ _ => Nat.zero_le _) (by decide) (by decide) (by decide) N24_22 N24_23).sameF hF24).unset
  have N3_4 := dis_sub (dis_back (dis_A hA24 (O4.apart_type O21.b (by decide))) N24_4 (Own.apart2_type O22 O4 (by decide)) N23_4) (sameF_sub hF24)
  have N3_10 := dis_sub (dis_back (dis_A hA24 (O10.apart_type O21.b (by decide))) N24_10 (Own.apart2_type O22 O10 (by decide)) N23_10) (sameF_sub hF24)
  obtain ⟨m264, hm265, hJ266⟩ := H
  exact ⟨m264, hm265, _, _, _, F143, rfl, hJ266, hB, O3, (by first | rfl | assumption | omega | (simp; done) | (simp; omega) | (simp; assumption)), LM3, N3_4, N3_10, O4, (by first | rfl | assumption | omega | (simp; done) | (simp; omega) | (simp; assumption)), (by first | exact O1 | (simp only [bC, wC, List.length_set, ← hn146]; exact O1)), O5, O10⟩
 cases hr.trans H.symm
 exact ⟨A0_1, c0_1, F143, rfl, (by first | exact O1 | (simp only [bC, wC, List.length_set, ← hn144, ← hn146]; exact O1)), rfl, (O3.mono (Nat.zero_le _)), LM3, (by first | exact O4 | (simp only [bC, wC, List.length_set, ← hn144, ← hn146]; exact O4)), (by first | (simp only [bC, wC, List.length_set]; done) | (simp only [bC, wC, List.length_set, ← hn146]; done) | (simp; done) | (simp; omega) | omega), hB⟩
def impl_Block_pass.vc (p0 : Addr) (x1 : Int) (w : World) (K : VK) : Prop :=
  ldS w (p0.add 0) fun A21 n22 c23 => ldS w (p0.add 1) fun A24 n25 c26 => ldS w (p0.add 2) fun A27 n28 c29 => ldI w (p0.add 3) fun n30 => ldI w (p0.add 4) fun n31 => Cl 169 #[(.agg (vB A21 n22 c23 A24 n25 c26 A27 n28 c29 n30 n31)), (iv x1)] w fun v32 w33 => (∃ u34 : Value, (∃ (n35 : Int), True ∧ ∃ (n36 : Int), True ∧ ∃ (n37 : Int), True ∧ ∃ (n38 : Int), True ∧ u34 = (.agg #[(iv n35), (iv n36), (iv n37), (iv n38)]) ∧ ∃ u39 : Value, (∃ (b40 : Bool), u39 = (.bool b40) ∧ v32 = (.tuple #[(.agg #[(iv n35), (iv n36), (iv n37), (iv n38)]), (.bool b40)]) ∧ newK w33 (.cells #[(iv 0), (iv 0), (iv 0), (iv 0)] 89) fun g41 w42 => stCells (bx g41) [(iv n35), (iv n36), (iv n37), (iv n38)] 0 w42 fun w43 => JoinT (σ := Unit) (fun J44 => ldI w43 ((bx g41).add 0) fun n45 => ldI w43 ((bx g41).add 1) fun n46 => ldI w43 ((bx g41).add 2) fun n47 => ldI w43 ((bx g41).add 3) fun n48 => Cl 143 #[(.agg #[(iv n45), (iv n46), (iv n47), (iv n48)])] w43 fun v49 w50 => (∃ (b51 : Bool), v49 = (.bool b51) ∧ bcase b51 ((∃ M52 : Nat → Prop, ldSM M52 w50 (p0.add 1) 0 fun A53 n54 c55 => (idx x1 n54 A53 fun a56 => ldSM M52 w50 (p0.add 0) 0 fun A57 n58 c59 => Cl 76 #[(.pointer (some (a56.add ((x1.toNat) * 3)))), (sv A57 n58 c59)] w50.drew fun v60 w61 => (∃ (b62 : Bool), v60 = (.bool b62) ∧ J44 () w61)))) (JoinT (σ := Unit) (fun J63 => ldI w50 (((bx g41).add 0).add 0) fun n64 => bcase (n64 == 16) (((0 : Int) ≤ x1 ∧ ((∃ (n65 : Int), w50.drew.cell? ((p0.add 3).add 0) = some (iv n65) ∧ ((stCells (p0.add 3) [(iv (bitOr .i64 n65 (wrap .i64 (1 * 2 ^ (min (x1.toNat) (IntKind.bits .i64))))))] 0 w50.drew fun w66 => J63 () w66) ∧ True)) ∧ True))) (ldI w50 ((bx g41).add 0) fun n67 => ldI w50 ((bx g41).add 1) fun n68 => ldI w50 ((bx g41).add 2) fun n69 => ldI w50 ((bx g41).add 3) fun n70 => Cl 178 #[(.pointer (some p0)), (iv x1), (.agg #[(iv n67), (iv n68), (iv n69), (iv n70)])] w50 fun v71 w72 => (v71 = (.tuple #[]) ∧ J63 () w72))) fun z73 w74 => ldS w74 ((p0.add 1).add 0) fun A75 n76 c77 => (idx x1 n76 A75 fun a78 => ldS w74 (((a78.add ((x1.toNat) * 3)).add 1).add 0) fun A79 n80 c81 => (idx (wrap .i64 (((n80 : Nat) : Int) - 1)) n80 A79 fun a82 => ldI w74 (((a82.add (((wrap .i64 (((n80 : Nat) : Int) - 1)).toNat) * 3)).add 0).add 0) fun n83 => (idx (wrap .i64 (((n80 : Nat) : Int) - 1)) n80 A79 fun a84 => stCells ((a84.add (((wrap .i64 (((n80 : Nat) : Int) - 1)).toNat) * 3)).add 0) [(iv (wrap .i64 (n83 + 1)))] 0 w74 fun w85 => (∃ M86 : Nat → Prop, ldSM M86 w85 (p0.add 1) 0 fun A87 n88 c89 => (idx x1 n88 A87 fun a90 => ldSM M86 w85 (p0.add 0) 0 fun A91 n92 c93 => Cl 147 #[(.pointer (some (a90.add ((x1.toNat) * 3)))), (iv ((n92 : Nat) : Int))] w85.drew fun v94 w95 => (v94 = (.tuple #[]) ∧ J44 () w95))))))))) fun z96 w97 => ldI w97 ((p0.add 3).add 0) fun n98 => bcase (n98 == 0) (K (.bool true) w97) (ldS w97 ((p0.add 1).add 0) fun A99 n100 c101 => LoopT (σ := Int × Unit) (fun z102 w103 next104 => bcase (decide (z102.1 < ((n100 : Nat) : Int))) ((idx z102.1 n100 A99 fun a105 => ldI w103 ((a105.add ((z102.1.toNat) * 3)).add 0) fun n106 => ldS w103 ((a105.add ((z102.1.toNat) * 3)).add 1) fun A107 n108 c109 => ldS w103 ((a105.add ((z102.1.toNat) * 3)).add 2) fun A110 n111 c112 => newK w103 (.cells #[(iv 0), (sv none 0 0), (sv none 0 0)] 31) fun g113 w114 => stCells (bx g113) [(iv n106), (sv A107 n108 c109), (sv A110 n111 c112)] 0 w114 fun w115 => ldS w115 (p0.add 0) fun A116 n117 c118 => ldS w115 (p0.add 1) fun A119 n120 c121 => ldS w115 (p0.add 2) fun A122 n123 c124 => ldI w115 (p0.add 3) fun n125 => ldI w115 (p0.add 4) fun n126 => Cl 179 #[(.agg (vB A116 n117 c118 A119 n120 c121 A122 n123 c124 n125 n126)), (iv z102.1)] w115 fun v127 w128 => (∃ (b129 : Bool), v127 = (.bool b129) ∧ bcase (!b129) (ldS w128 (((bx g113).add 1).add 0) fun A130 n131 c132 => bcase (decide (((n131 : Nat) : Int) > 0)) (K (.bool true) w128) (next104 ((wrap .i64 (z102.1 + 1)), ()) w128)) (next104 ((wrap .i64 (z102.1 + 1)), ()) w128)))) (stCells (p0.add 3) [(iv 0)] 0 w103 fun w133 => ldI w133 ((p0.add 4).add 0) fun n134 => stCells (p0.add 4) [(iv (wrap .i64 (n134 + 1)))] 0 w133 fun w135 => ldI w135 ((p0.add 4).add 0) fun n136 => K (.bool (decide (n136 ≤ 100000))) w135)) (0, ()) w97))))

def impl_Block_pass.ann : Ann := (.seq .l (.seq .l (.cut [] (.seq .l (.two .l (.cut [] (.seq .l (.two .each .l)) (.seq .l (.seq .l .l))))) (.seq (.seq .l (.two (.seq .l .l) .l)) (.seq (.seq .l (.one (.loop [(87, .int .i64)] (.seq .l (.seq (.two .l .l) (.seq (.one (.seq .l (.seq .l (.two (.seq .l .l) .l)))) .l)))))) (.seq .l (.seq .l (.seq .l .l))))))))

theorem impl_Block_pass.con {s0 : D.Block} {g1_ c0_0 c0_1 c0_2 : Nat} {A0_0 A0_1 A0_2 : OA} {F0_1 : Nat → Prop} {x1 : Int} {r : Bool × D.Block} {w : World} (hp : M.impl_Block_pass_pre s0 x1) (hr : r = M.impl_Block_pass s0 x1) (O1 : Blk w g1_ 59 (bC A0_0 c0_0 A0_1 c0_1 A0_2 c0_2 s0)) (R0_0 : Row el89 w A0_0 s0.Code) (hc0_0 : s0.Code.length ≤ c0_0) (O3 : OwnW 31 el130 el3 w 0 F0_1 A0_1 c0_1 s0.Warps) (O4 : Own el3 w 0 A0_2 c0_2 s0.Memory) (N3_4 : Dis (InW A0_1 F0_1) (InB A0_2)) (D0_0 : s0.Code ≠ [] → ∀ g, InB A0_0 g → ¬ (fun k_ => InW A0_1 F0_1 k_ ∨ InB A0_2 k_ ∨ k_ = g1_) g) :
    Cl 111 #[(.pointer (some (bx g1_))), (iv x1)] w (fun v_ w_ => ∃ (A0_ : OA) (c0_ : Nat) (F0_ : Nat → Prop), v_ = (.bool r.1) ∧ Blk w_ g1_ 59 #[(sv A0_0 r.2.Code.length c0_0), (sv A0_ r.2.Warps.length c0_), (sv A0_2 s0.Memory.length c0_2), (iv r.2.Waiting), (iv r.2.Phase)] ∧ r.2.Code = s0.Code ∧ OwnW 31 el130 el3 w_ 0 F0_ A0_ c0_ r.2.Warps ∧ MovW w (InW A0_1 F0_1) (InW A0_ F0_) ∧ Own el3 w_ 0 A0_2 c0_2 r.2.Memory ∧ r.2.Memory.length = s0.Memory.length ∧ Chg (fun k_ => InW A0_1 F0_1 k_ ∨ InB A0_2 k_ ∨ k_ = g1_) w w_) := by
 have H := wp.impl_Block_pass.math s0 x1 hp
 have hB := Chg.refl (fun k_ => InW A0_1 F0_1 k_ ∨ InB A0_2 k_ ∨ k_ = g1_) w
 refine begK mixed Tryz.f111 ann (vc (bx g1_) x1) ?_
 unfold vc
 unfold wp.impl_Block_pass at H
 have LM3 := MovW.refl w (InW A0_1 F0_1)
 refine ⟨_, _, _, (O1.a 0), _, _, _, (O1.a 1), _, _, _, (O1.a 2), _, (O1.a 3), _, (O1.a 4), ?_⟩
 obtain ⟨hp23, H⟩ := H
 obtain ⟨r21, hr22, H⟩ := callO H
 refine (impl_Block_nextIns.con hp23 hr22 (R0_0.chgS hB D0_0) hc0_0 O3.row O3.le O4.row O4.le).mono ?_
 rintro _ w24 ⟨rfl, e25⟩
 have O1 := O1.ext e25
 have O3 := O3.ext e25
 have O4 := O4.ext e25
 have hB := hB.then e25
 refine ⟨(.agg (iC r21.1)), r21.1.Op, trivial, r21.1.A, trivial, r21.1.B, trivial, r21.1.C, trivial, rfl, (.bool r21.2), r21.2, rfl, rfl, ?_⟩
 refine newBlk (fun g5_ w26 L5 P5 e27 => ?_)
 have N1_5 := O1.ne L5
 have N3_5 := O3.dis_newbox L5
 have N4_5 := O4.apart_new L5
 have O4 := O4.ext e27
 have O5 := P5
 have L5 := Nat.le_trans hB.size L5
 refine stBlk O5 (o := 0) (cs' := (iC r21.1)) rfl rfl (Nat.le_of_ble_eq_true rfl) rfl (fun w28 O5 e29 => ?_)
 have O1 := (O1.ext e27).chg e29 N1_5
 have O3 := (O3.ext e27).chg e29 N3_5
 have O4_ := O4.chg e29 N4_5
 have O4 := O4_
 have hB := (hB.then e27).chgb e29 (Or.inl L5)
 obtain ⟨K150, hKK150, H⟩ := joinP_out H
 refine ⟨fun z_ w_ => ∃ (xs31 : List D.Warp) (i34 i35 : Int) (xs36 : List Int) (A32 : OA) (c33 : Nat) (F30 : Nat → Prop), z_ = (()) ∧ K150 (xs31, i34, i35, xs36, ()) ∧ Chg (fun k_ => InW A0_1 F0_1 k_ ∨ InB A0_2 k_ ∨ k_ = g1_) w w_ ∧ Blk w_ g1_ 59 #[(sv A0_0 s0.Code.length c0_0), (sv A32 xs31.length c33), (sv A0_2 s0.Memory.length c0_2), (iv i34), (iv i35)] ∧ OwnW 31 el130 el3 w_ 0 F30 A32 c33 xs31 ∧ MovW w (InW A0_1 F0_1) (InW A32 F30) ∧ Own el3 w_ 0 A0_2 c0_2 xs36 ∧ s0.Memory.length = xs36.length ∧ Dis (InW A32 F30) (InB A0_2), ?_, ?_⟩
 ·refine ⟨_, (O5.a 0), _, (O5.a 1), _, (O5.a 2), _, (O5.a 3), ?_⟩
  obtain ⟨r41, hr42, H⟩ := callO H
  refine (impl_IsLocal.con hr42 ).mono ?_
  rintro _ w44 ⟨rfl, e45⟩
  have O1 := O1.ext e45
  have O3 := O3.ext e45
  have O4 := O4.ext e45
  have O5 := O5.ext e45
  have hB := hB.then e45
  refine ⟨r41, rfl, ?_⟩
  refine brc H (fun h H => ?_) fun h H => ?_
  ·obtain ⟨⟨h0_47, h1_48⟩, H⟩ := H
   obtain ⟨g21_, o21_, z21_, A22_, c22_, A23_, c23_, R21_, G24_, hA24, ha24, ho24, O21, O22, O23, O24, hF24, N24_22, N24_23, N24_21, L21⟩ := OwnW.focus O3 h0_47 h1_48 (by decide) (by decide) (by decide)
   have LM21 := LM3.sub (b_sub hA24)
   have LM22 := LM3.sub (f_sub hF24)
   have LM23 := LM3.sub (r_sub hF24)
   have LM24 := LM3.sub (hole_sub hF24)
   have N24_4 := dis_sub N3_4 (hole_sub hF24)
   have N23_4 := dis_ap2 (dis_sub N3_4 (r_sub hF24))
   refine ⟨(fun _ => False), _, _, _, noM (O1.a 1), ?_⟩
   obtain ⟨⟨h0_49, h1_50⟩, H⟩ := H
   refine ⟨h0_49, (by first | exact h1_50 | omega | (simp at h1_50 ⊢; omega)), (⟨g21_, z21_, none⟩ : Addr), hA24, ?_⟩
   try dsimp only
   try rw [ha24]
   refine ⟨_, _, _, noM (O1.a 0), ?_⟩
   have O1 := O1.ext (Ext.drew _)
   have O4 := O4.ext (Ext.drew _)
   have O21 := O21.ext (Ext.drew _)
   have O22 := O22.ext (Ext.drew _)
   have O23 := O23.ext (Ext.drew _)
   have O24 := O24.ext (Ext.drew _)
   have hB := hB.then (Ext.drew _)
   obtain ⟨hp53, H⟩ := H
   obtain ⟨r51, hr52, H⟩ := callO H
   refine (impl_Warp_pass.con hp53 hr52 (by first | exact O21 | (simp only [bC, wC, List.length_set]; exact O21)) (O22.mono (Nat.zero_le _)) (O23.mono (Nat.zero_le _)) (R0_0.chgS hB D0_0) hc0_0 (fun hx_ => (fun g h_ => (fun hS_ => hS_.elim ((fun g h_ hS_ => ((LM22 _ hS_).elim (fun h4_ => Or.inr (Or.inl h4_)) Or.inl).elim (fun h3_ => Nat.not_le.2 (R0_0.old hx_ g h_) h3_) (D0_0 hx_ g h_)) g h_) (fun hS_ => hS_.elim ((fun g h_ hS_ => ((LM23 _ hS_).elim (fun h4_ => Or.inr (Or.inl h4_)) Or.inl).elim (fun h3_ => Nat.not_le.2 (R0_0.old hx_ g h_) h3_) (D0_0 hx_ g h_)) g h_) ((fun g h_ hS_ => ((LM21 _ hS_).elim (fun h4_ => Or.inr (Or.inl h4_)) Or.inl).elim (fun h3_ => Nat.not_le.2 (R0_0.old hx_ g h_) h3_) (D0_0 hx_ g h_)) g h_)))))).mono ?_
   rintro _ w54 ⟨A56, c57, A58, c59, rfl, Q21, Q25, Mv25, Q26, Mv26, e55⟩
   have LM25 := LM22.mov Mv25 hB.size
   have N24_25 := O24.dis_mov N24_22 Mv25
   have LM26 := LM23.mov Mv26 hB.size
   have N4_26 := Apart2.mov (N23_4).symm Mv26 O4
   have N24_26 := O24.dis_mov N24_23 Mv26
   have O1 := O1.chgS e55 (fun hS_ => hS_.elim ((O22.apart_type O1 (by decide))).inb (fun hS_ => hS_.elim ((O23.apart_type O1 (by decide))).inb ((Blk.ne_type O1 O21.b (by decide)))))
   have O4 := O4.chgS e55 (fun g h_ => (fun hS_ => hS_.elim (((Own.apart2_type O4 O22 (by decide))).inb g h_) (fun hS_ => hS_.elim (((N23_4).symm).inb g h_) ((box_inb (O4.apart_type O21.b (by decide))) g h_))))
   have O24 := O24.kept e55 (fun g h_ => (fun hS_ => hS_.elim (N24_22 g h_) (fun hS_ => hS_.elim (N24_23 g h_) ((ne_dis N24_21) g h_))))
   have hB := hB.chg e55 (fun g => (fun hS_ => hS_.elim ((fun g h_ => ((LM22 _ h_).elim (fun h4_ => Or.inr (Or.inl h4_)) Or.inl)) g) (fun hS_ => hS_.elim ((fun g h_ => ((LM23 _ h_).elim (fun h4_ => Or.inr (Or.inl h4_)) Or.inl)) g) ((fun g h_ => ((LM21 _ h_).elim (fun h4_ => Or.inr (Or.inl h4_)) Or.inl)) g))))
   have O21 := Q21
   have O25 := Q25
   have O26 := Q26
   refine ⟨r51.1, rfl, ?_⟩
   have O3 := (HoleW.back O24 hA24 ho24 O21 O25 O26 rfl rfl (fun _ _ => Nat.zero_le _) (fun _ _ => Nat.zero_le _) (by decide) (by decide) (by decide) N24_25 N24_26)
   have N3_4 := dis_back (dis_A hA24 (O4.apart_type O21.b (by decide))) N24_4 (Own.apart2_type O25 O4 (by decide)) (N4_26).symm
   have LM3 := MovW.back (LM21.sub (fun _ h_ => inA_eq hA24 h_)) LM24 LM25 LM26
   exact ⟨_, _, _, _, A0_1, c0_1, (fun k => G24_ k ∨ InB A56 k ∨ InB A58 k), rfl, H, hB, (by first | exact O1 | (simp only [bC, wC, List.length_set]; exact O1)), O3, LM3, O4, (by first | rfl | assumption | omega | (simp; done) | (simp; omega) | (simp; assumption)), N3_4⟩
  obtain ⟨K112, hKK112, H⟩ := joinP_out H
  refine ⟨fun z_ w_ => ∃ (xs61 : List D.Warp) (i64 i65 : Int) (xs66 : List Int) (A62 : OA) (c63 : Nat) (F60 : Nat → Prop), z_ = (()) ∧ K112 (xs61, i64, i65, xs66, ()) ∧ Chg (fun k_ => InW A0_1 F0_1 k_ ∨ InB A0_2 k_ ∨ k_ = g1_) w w_ ∧ Blk w_ g1_ 59 #[(sv A0_0 s0.Code.length c0_0), (sv A62 xs61.length c63), (sv A0_2 s0.Memory.length c0_2), (iv i64), (iv i65)] ∧ OwnW 31 el130 el3 w_ 0 F60 A62 c63 xs61 ∧ MovW w (InW A0_1 F0_1) (InW A62 F60) ∧ Own el3 w_ 0 A0_2 c0_2 xs66 ∧ s0.Memory.length = xs66.length ∧ Dis (InW A62 F60) (InB A0_2), ?_, ?_⟩
  ·refine ⟨_, (O5.a 0), ?_⟩
   refine brc H (fun h H => ?_) fun h H => ?_
   ·have O1 := O1.ext (Ext.drew _)
    have O3 := O3.ext (Ext.drew _)
    have O4 := O4.ext (Ext.drew _)
    obtain ⟨hc71, H⟩ := H
    refine ⟨hc71, ?_⟩
    refine and_t ?_
    refine ⟨_, (O1.a 3), ?_⟩
    refine and_t ?_
    refine stB O1 3 #[(sv A0_0 s0.Code.length c0_0), (sv A0_1 s0.Warps.length c0_1), (sv A0_2 s0.Memory.length c0_2), (iv (bitOr .i64 s0.Waiting (wrap .i64 (1 * 2 ^ (min (x1.toNat) (IntKind.bits .i64)))))), (iv s0.Phase)] (fun w72 P1 e73 => ?_)
    have O3 := O3.chg e73 (O3.dis_blk O1 (by decide) (by decide) (by decide))
    have O4 := O4.chg e73 (O4.apart_type O1 (by decide))
    have hB := (hB.then (Ext.drew _)).chgb e73 (Or.inr (Or.inr (Or.inr rfl)))
    have O1 := P1
    exact ⟨_, _, _, _, A0_1, c0_1, F0_1, rfl, H, hB, O1, O3, LM3, O4, (by first | rfl | assumption | omega | (simp; done) | (simp; omega) | (simp; assumption)), N3_4⟩
   refine ⟨_, (O5.a 0), _, (O5.a 1), _, (O5.a 2), _, (O5.a 3), ?_⟩
   obtain ⟨hp76, H⟩ := H
   obtain ⟨r74, hr75, H⟩ := callO H
   refine (impl_Block_access.con hp76 hr75 O1 (R0_0.chgS hB D0_0) hc0_0 (O3.mono (Nat.zero_le _)) (O4.mono (Nat.zero_le _)) N3_4 (fun hx_ => (fun g h_ => (fun hS_ => hS_.elim ((fun g h_ hS_ => D0_0 hx_ g h_ (Or.inl hS_)) g h_) (fun hS_ => hS_.elim ((fun g h_ hS_ => D0_0 hx_ g h_ (Or.inr (Or.inl hS_))) g h_) ((fun g h_ hS_ => D0_0 hx_ g h_ (Or.inr (Or.inr hS_))) g h_)))))).mono ?_
   rintro _ w77 ⟨A80, c81, F82, rfl, Q1, hq79, Q29, Mv29, Q4, hl83, e78⟩
   simp only [bC, wC, hq79] at Q1
   try dsimp only at hl83
   have LM29 := LM3.trans Mv29 hB.size
   have N29_4 := Mv29.dis N3_4 O4.oldA
   have hB := hB.chg e78 (fun g => (fun hS_ => hS_.elim ((fun g h_ => ((LM3 _ h_).elim (fun h4_ => Or.inr (Or.inl h4_)) Or.inl)) g) (fun hS_ => hS_.elim ((fun g h_ => (Or.inr (Or.inr (Or.inl h_)))) g) ((fun g h_ => Or.inr (Or.inr (Or.inr h_))) g))))
   have O1 := Q1
   have O4 := Q4
   have O29 := Q29
   refine ⟨rfl, ?_⟩
   exact ⟨_, _, _, _, A80, c81, F82, rfl, H, hB, (by first | exact O1 | (simp only [bC, wC, List.length_set, hl83]; exact O1)), O29, LM29, O4, (by first | rfl | assumption | omega | (simp; done) | (simp; omega) | (simp; assumption)), N29_4⟩
  rintro _ w69 ⟨xs61, i64, i65, xs66, A62, c63, F60, rfl, H, hB, O1, O28, LM28, O4, hn67, N28_4⟩
  have H := hKK112 _ H
  try dsimp only at H ⊢
  refine ⟨_, _, _, (O1.a 1), ?_⟩
  obtain ⟨⟨h0_85, h1_86⟩, H⟩ := H
  obtain ⟨g30_, o30_, z30_, A31_, c31_, A32_, c32_, R30_, G33_, hA33, ha33, ho33, O30, O31, O32, O33, hF33, N33_31, N33_32, N33_30, L30⟩ := OwnW.focus O28 h0_85 h1_86 (by decide) (by decide) (by decide)
  have LM30 := LM28.sub (b_sub hA33)
  have LM31 := LM28.sub (f_sub hF33)
  have LM32 := LM28.sub (r_sub hF33)
  have LM33 := LM28.sub (hole_sub hF33)
  have N33_4 := dis_sub N28_4 (hole_sub hF33)
  have N32_4 := dis_ap2 (dis_sub N28_4 (r_sub hF33))
  refine ⟨h0_85, h1_86, (⟨g30_, z30_, none⟩ : Addr), hA33, ?_⟩
  try dsimp only
  try rw [ha33]
  refine ⟨_, _, _, (O30.a 1), ?_⟩
  obtain ⟨⟨h0_90, h1_91⟩, H⟩ := H
  obtain ⟨a88, ha89, hat87⟩ := Row.at O31.row h0_90 h1_91
  refine ⟨h0_90, (by first | exact h1_91 | omega | (simp at h1_91 ⊢; omega)), a88, ha89, _, (hat87 0 _ rfl), ?_⟩
  obtain ⟨⟨h0_95, h1_96⟩, H⟩ := H
  obtain ⟨a93, ha94, hat92⟩ := Row.at O31.row h0_95 h1_96
  refine ⟨h0_95, (by first | exact h1_96 | omega | (simp at h1_96 ⊢; omega)), a93, ha94, ?_⟩
  refine Own.stA O31 ha94 h0_95 h1_96 0 (⟨(wrap .i64 ((rd ((rd xs61 x1).Frames) (wrap .i64 (((rd xs61 x1).Frames.length : Int) - 1))).Pc + 1)), (rd ((rd xs61 x1).Frames) (wrap .i64 (((rd xs61 x1).Frames.length : Int) - 1))).Stop, (rd ((rd xs61 x1).Frames) (wrap .i64 (((rd xs61 x1).Frames.length : Int) - 1))).Mask⟩ : D.Frame) (fun w97 P31 e98 hb99 => ?_)
  have O1 := O1.chg e98 (fun h_ => ((O31.apart_type O1 (by decide))) _ ha94 h_.symm)
  have O4 := O4.chg e98 (((Own.apart2_type O4 O31 (by decide))).left ha94)
  have O30 := O30.chg e98 (fun h_ => ((O31.apart_type O30.b (by decide))) _ ha94 h_.symm)
  have O32 := O32.chg e98 (((Own.apart2_type O32 O31 (by decide))).left ha94)
  refine ⟨(fun _ => False), _, _, _, noM (O1.a 1), ?_⟩
  obtain ⟨⟨h0_101, h1_102⟩, H⟩ := H
  refine ⟨h0_101, (by first | exact h1_102 | omega | (simp at h1_102 ⊢; omega)), (⟨g30_, z30_, none⟩ : Addr), hA33, ?_⟩
  try dsimp only
  try rw [ha33]
  refine ⟨_, _, _, noM (O1.a 0), ?_⟩
  have O1 := O1.ext (Ext.drew _)
  have O4 := O4.ext (Ext.drew _)
  have O30 := O30.ext (Ext.drew _)
  have O31 := P31.ext (Ext.drew _)
  have O32 := O32.ext (Ext.drew _)
  have O33 := (O33.chg e98 (fun h_ => N33_31 _ h_ ⟨_, ha94, rfl⟩)).ext (Ext.drew _)
  have hB := (hB.chgb e98 ((LM31 _ ⟨_, ha94, rfl⟩).elim (fun h4_ => Or.inr (Or.inl h4_)) Or.inl)).then (Ext.drew _)
  obtain ⟨hp105, H⟩ := H
  obtain ⟨r103, hr104, H⟩ := callO H
  refine (impl_Warp_drop.con hp105 hr104 (by first | exact O30 | (simp only [bC, wC, List.length_set]; exact O30)) (O31.mono (Nat.zero_le _)) O32.row O32.le (fun _ => (fun g h_ => (fun hS_ => hS_.elim (((Own.apart2_type O32 O31 (by decide))).inb g h_) ((box_inb (O32.apart_type O30.b (by decide))) g h_))))).mono ?_
  rintro _ w106 ⟨A108, c109, rfl, Q30, Q34, Mv34, hq110, e107⟩
  simp only [bC, wC, hq110] at Q30
  have LM34 := LM31.mov Mv34 hB.size
  have N33_34 := O33.dis_mov N33_31 Mv34
  have O1 := O1.chgS e107 (fun hS_ => hS_.elim ((O31.apart_type O1 (by decide))).inb ((Blk.ne_type O1 O30.b (by decide))))
  have O4 := O4.chgS e107 (fun g h_ => (fun hS_ => hS_.elim (((Own.apart2_type O4 O31 (by decide))).inb g h_) ((box_inb (O4.apart_type O30.b (by decide))) g h_)))
  have O32 := O32.chgS e107 (fun g h_ => (fun hS_ => hS_.elim (((Own.apart2_type O32 O31 (by decide))).inb g h_) ((box_inb (O32.apart_type O30.b (by decide))) g h_)))
  have O33 := O33.kept e107 (fun g h_ => (fun hS_ => hS_.elim (N33_31 g h_) ((ne_dis N33_30) g h_)))
  have hB := hB.chg e107 (fun g => (fun hS_ => hS_.elim ((fun g h_ => ((LM31 _ h_).elim (fun h4_ => Or.inr (Or.inl h4_)) Or.inl)) g) ((fun g h_ => ((LM30 _ h_).elim (fun h4_ => Or.inr (Or.inl h4_)) Or.inl)) g)))
  have O30 := Q30
  have O34 := Q34
  refine ⟨rfl, ?_⟩
  have O28 := (HoleW.back O33 hA33 ho33 O30 O34 O32 rfl (by first | rfl | (simp only [bC, wC, List.length_set]; done) | (simp; done) | (simp; omega)) (fun _ _ => Nat.zero_le _) (fun _ _ => Nat.zero_le _) (by decide) (by decide) (by decide) N33_34 N33_32)
  have N28_4 := dis_back (dis_A hA33 (O4.apart_type O30.b (by decide))) N33_4 (Own.apart2_type O34 O4 (by decide)) N32_4
  have LM28 := MovW.back (LM30.sub (fun _ h_ => inA_eq hA33 h_)) LM33 LM34 LM32
  exact ⟨_, i64, i65, xs66, A62, c63, (fun k => G33_ k ∨ InB A108 k ∨ InB A32_ k), rfl, H, hB, (by first | exact O1 | (simp only [bC, wC, List.length_set, ← hn67]; exact O1)), O28, LM28, O4, (by first | rfl | assumption | omega | (simp; done) | (simp; omega) | (simp; assumption)), N28_4⟩
 rintro _ w39 ⟨xs31, i34, i35, xs36, A32, c33, F30, rfl, H, hB, O1, O20, LM20, O4, hn37, N20_4⟩
 have H := hKK150 _ H
 try dsimp only at H ⊢
 refine ⟨_, (O1.a 3), ?_⟩
 refine brc H (fun h H => ?_) fun h H => ?_
 ·cases hr.trans H.symm
  exact ⟨A32, c33, F30, rfl, O1, rfl, (O20.mono (Nat.zero_le _)), LM20, O4, (by first | (simp only [bC, wC, List.length_set]; done) | (simp only [bC, wC, List.length_set, ← hn37]; done) | (simp; done) | (simp; omega) | omega), hB⟩
 refine ⟨_, _, _, (O1.a 1), ?_⟩
 obtain ⟨J116, ⟨m146, hJ145⟩, hS117⟩ := H
 refine ⟨fun m_ z_ w_ => ∃ (i114 : Int), z_ = (i114, ()) ∧ J116 m_ (i114, ()) ∧ Chg (fun k_ => InW A0_1 F0_1 k_ ∨ InB A0_2 k_ ∨ k_ = g1_) w w_ ∧ Blk w_ g1_ 59 #[(sv A0_0 s0.Code.length c0_0), (sv A32 xs31.length c33), (sv A0_2 s0.Memory.length c0_2), (iv i34), (iv i35)] ∧ Own el3 w_ 0 A0_2 c0_2 xs36 ∧ OwnW 31 el130 el3 w_ 0 F30 A32 c33 xs31, ⟨m146, 0, rfl, hJ145, hB, (by first | exact O1 | (simp only [bC, wC, List.length_set, ← hn37]; exact O1)), O4, O20⟩, ?_⟩
 rintro m115 _ w119 ⟨i114, rfl, hJ147, hB, O1, O4, O20⟩
 have H := hS117 m115 _ hJ147
 clear hS117 hJ147
 try dsimp only at H ⊢
 refine brc H (fun h H => ?_) fun h H => ?_
 ·obtain ⟨⟨h0_120, h1_121⟩, H⟩ := H
  obtain ⟨g35_, o35_, z35_, A36_, c36_, A37_, c37_, R35_, G38_, hA38, ha38, ho38, O35, O36, O37, O38, hF38, N38_36, N38_37, N38_35, L35⟩ := OwnW.focus O20 h0_120 h1_121 (by decide) (by decide) (by decide)
  refine ⟨h0_120, h1_121, (⟨g35_, z35_, none⟩ : Addr), hA38, ?_⟩
  try dsimp only
  try rw [ha38]
  refine ⟨_, (O35.a 0), _, _, _, (O35.a 1), _, _, _, (O35.a 2), ?_⟩
  refine newBlk (fun g39_ w122 L39 P39 e123 => ?_)
  have N1_39 := O1.ne L39
  have N4_39 := O4.apart_new L39
  have N35_39 := O35.ne L39
  have N36_39 := O36.apart_new L39
  have N37_39 := O37.apart_new L39
  have N38_39 := O38.dis_newbox L39
  have O39 := P39
  have L39 := Nat.le_trans hB.size L39
  refine stBlk O39 (o := 0) (cs' := #[(iv ((rd xs31 i114).Number)), (sv A36_ ((rd xs31 i114).Frames.length) c36_), (sv A37_ ((rd xs31 i114).Regs.length) c37_)]) rfl rfl (Nat.le_of_ble_eq_true rfl) rfl (fun w124 O39 e125 => ?_)
  have O1 := (O1.ext e123).chg e125 N1_39
  have O4 := (O4.ext e123).chg e125 N4_39
  have O35 := (O35.ext e123).chg e125 N35_39
  have O36 := (O36.ext e123).chg e125 N36_39
  have O37 := (O37.ext e123).chg e125 N37_39
  have O38 := (O38.ext e123).chg e125 N38_39
  have hB := (hB.then e123).chgb e125 (Or.inl L39)
  refine ⟨_, _, _, (O1.a 0), _, _, _, (O1.a 1), _, _, _, (O1.a 2), _, (O1.a 3), _, (O1.a 4), ?_⟩
  have O20 := ((HoleW.back O38 hA38 ho38 O35 O36 O37 (by first | rfl | (simp only [bC, wC, List.length_set]; done) | (simp; done) | (simp; omega)) (by first | rfl | (simp only [bC, wC, List.length_set]; done) | (simp; done) | (simp; omega)) (fun _ _ => Nat.zero_le _) (fun _ _ => Nat.zero_le _) (by decide) (by decide) (by decide) N38_36 N38_37).sameF hF38).unset
  obtain ⟨hp128, H⟩ := H
  obtain ⟨r126, hr127, H⟩ := callO H
  refine (cllArgs (by first | (simp only [bC, wC, List.length_set, ← hn37]; done) | (simp; done)) (impl_Block_waits.con hp128 hr127 (R0_0.chgS hB D0_0) hc0_0 O20.row O20.le O4.row O4.le)).mono ?_
  rintro _ w129 ⟨rfl, e130⟩
  have O1 := O1.ext e130
  have O4 := O4.ext e130
  have O39 := O39.ext e130
  have O20 := O20.ext e130
  have hB := hB.then e130
  refine ⟨r126, rfl, ?_⟩
  refine brc H (fun h H => ?_) fun h H => ?_
  ·refine ⟨_, _, _, (O39.a 1), ?_⟩
   refine brc H (fun h H => ?_) fun h H => ?_
   ·cases hr.trans H.symm
    exact ⟨A32, c33, F30, rfl, O1, rfl, (O20.mono (Nat.zero_le _)), LM20, O4, (by first | (simp only [bC, wC, List.length_set]; done) | (simp only [bC, wC, List.length_set, ← hn37]; done) | (simp; done) | (simp; omega) | omega), hB⟩
   obtain ⟨m131, hm132, hJ133⟩ := H
   exact ⟨m131, hm132, _, rfl, hJ133, hB, (by first | exact O1 | (simp only [bC, wC, List.length_set, ← hn37]; exact O1)), O4, O20⟩
  obtain ⟨m135, hm136, hJ137⟩ := H
  exact ⟨m135, hm136, _, rfl, hJ137, hB, (by first | exact O1 | (simp only [bC, wC, List.length_set, ← hn37]; exact O1)), O4, O20⟩
 refine stB O1 3 #[(sv A0_0 s0.Code.length c0_0), (sv A32 xs31.length c33), (sv A0_2 s0.Memory.length c0_2), (iv 0), (iv i35)] (fun w139 P1 e140 => ?_)
 have O4_ := O4.chg e140 (O4.apart_type O1 (by decide))
 have O20_ := O20.chg e140 (O20.dis_blk O1 (by decide) (by decide) (by decide))
 have O4 := O4_
 have O20 := O20_
 have O1 := P1
 refine ⟨_, (O1.a 4), ?_⟩
 refine stB O1 4 #[(sv A0_0 s0.Code.length c0_0), (sv A32 xs31.length c33), (sv A0_2 s0.Memory.length c0_2), (iv 0), (iv (wrap .i64 (i35 + 1)))] (fun w141 P1 e142 => ?_)
 have O4 := O4.chg e142 (O4.apart_type O1 (by decide))
 have O20 := O20.chg e142 (O20.dis_blk O1 (by decide) (by decide) (by decide))
 have hB := (hB.chgb e140 (Or.inr (Or.inr (Or.inr rfl)))).chgb e142 (Or.inr (Or.inr (Or.inr rfl)))
 have O1 := P1
 refine ⟨_, (O1.a 4), ?_⟩
 cases hr.trans H.symm
 exact ⟨A32, c33, F30, rfl, O1, rfl, (O20.mono (Nat.zero_le _)), LM20, O4, (by first | (simp only [bC, wC, List.length_set]; done) | (simp only [bC, wC, List.length_set, ← hn37]; done) | (simp; done) | (simp; omega) | omega), hB⟩
def impl_RunPicks_1.vc (x0 : Int) (p1 : Addr) (w : World) (K : VK) : Prop :=
  ldS w (p1.add 0) fun A21 n22 c23 => bcase (x0 == ((n22 : Nat) : Int)) (K (.tuple #[(iv 0), (.bool false)]) w) (ldS w (p1.add 0) fun A24 n25 c26 => (idx x0 n25 A24 fun a27 => ldI w ((a27.add ((x0.toNat) * 1)).add 0) fun n28 => K (.tuple #[(iv n28), (.bool true)]) w))

def impl_RunPicks_1.ann : Ann := (.seq .l (.seq (.seq .l (.two (.seq .l .l) .l)) (.seq .l .l)))

theorem impl_RunPicks_1.con {x0 : Int} {xs1 : List Int} {g1_ c1_0 : Nat} {A1_0 : OA} {r : Int × Bool} {w : World} (hp : M.impl_RunPicks_1_pre x0 xs1) (hr : r = M.impl_RunPicks_1 x0 xs1) (O1 : Blk w g1_ 24 #[(sv A1_0 xs1.length c1_0)]) (R1_0 : Row el3 w A1_0 xs1) (hc1_0 : xs1.length ≤ c1_0) :
    Cl 121 #[(iv x0), (.pointer (some (bx g1_)))] w (fun v_ w_ => v_ = (.tuple #[(iv r.1), (.bool r.2)]) ∧ Ext w w_) := by
 have H := wp.impl_RunPicks_1.math x0 xs1 hp
 have hB := Ext.refl w
 refine begK mixed Tryz.f121 ann (vc x0 (bx g1_)) ?_
 unfold vc
 unfold wp.impl_RunPicks_1 at H
 refine ⟨_, _, _, (O1.a 0), ?_⟩
 refine brc H (fun h H => ?_) fun h H => ?_
 ·cases hr.trans H.symm
  exact ⟨rfl, hB⟩
 refine ⟨_, _, _, (O1.a 0), ?_⟩
 obtain ⟨⟨h0_24, h1_25⟩, H⟩ := H
 obtain ⟨a22, ha23, hat21⟩ := Row.at (R1_0.ext hB) h0_24 h1_25
 refine ⟨h0_24, h1_25, a22, ha23, _, (hat21 0 _ rfl), ?_⟩
 cases hr.trans H.symm
 exact ⟨rfl, hB⟩
def impl_RunPicks_2.vc (x0 : Int) (w : World) (K : VK) : Prop :=
  K (.tuple #[]) w

def impl_RunPicks_2.ann : Ann := .l

theorem impl_RunPicks_2.con {x0 : Int} {r : Unit} {w : World} (hr : r = M.impl_RunPicks_2 x0)  :
    Cl 122 #[(iv x0)] w (fun v_ w_ => v_ = (.tuple #[]) ∧ Ext w w_) := by
 have H := wp.impl_RunPicks_2.math x0
 have hB := Ext.refl w
 refine begK mixed Tryz.f122 ann (vc x0) ?_
 unfold vc
 unfold wp.impl_RunPicks_2 at H
 cases hr.trans H.symm
 exact ⟨rfl, hB⟩
def impl_Block_follow_a.vc (p0 : Addr) (f1 : Nat) (cap1 : Array Value) (f2 : Nat) (cap2 : Array Value) (w : World) (K : VK) : Prop :=
  LoopT (σ := Int × Unit) (fun z21 w22 next23 => Cl f1 (#[(iv z21.1)] ++ cap1) w22 fun v24 w25 => (∃ u26 : Value, (∃ (n27 : Int), u26 = (iv n27) ∧ ∃ u28 : Value, (∃ (b29 : Bool), u28 = (.bool b29) ∧ v24 = (.tuple #[(iv n27), (.bool b29)]) ∧ bcase (!b29) (K (iv z21.1) w25) (bcase (decide (n27 < 0)) (K (iv z21.1) w25) (ldI w25 ((p0.add 4).add 0) fun n31 => bcase (n31 == 100000) (K (iv z21.1) w25) (ldS w25 (p0.add 0) fun A32 n33 c34 => ldS w25 (p0.add 1) fun A35 n36 c37 => ldS w25 (p0.add 2) fun A38 n39 c40 => ldI w25 (p0.add 3) fun n41 => ldI w25 (p0.add 4) fun n42 => Cl 183 #[(.agg (vB A32 n33 c34 A35 n36 c37 A38 n39 c40 n41 n42)), (iv n27)] w25 fun v43 w44 => (∃ (n45 : Int), v43 = (iv n45) ∧ bcase (decide (n45 < 0)) (K (iv z21.1) w44) (Cl f2 (#[(iv n45)] ++ cap2) w44 fun v46 w47 => (v46 = (.tuple #[]) ∧ Cl 111 #[(.pointer (some p0)), (iv n45)] w47 fun v48 w49 => (∃ (b50 : Bool), v48 = (.bool b50) ∧ next23 ((wrap .i64 (z21.1 + 1)), ()) w49))))))))))) (0, ()) w

def impl_Block_follow_a.ann : Ann := (.seq .l (.seq .l (.one (.loop [(7, .int .i64)] (.seq (.one (.seq .l (.seq (.seq .l (.two (.seq .l .l) .l)) (.seq .l (.seq (.seq .l (.two (.seq .l .l) .l)) (.seq .l .l)))))) .l)))))

theorem impl_Block_follow_a.start {p0 : Addr} {f1 : Nat} {cap1 : Array Value} {f2 : Nat} {cap2 : Array Value} {w : World} {K : Value → World → Prop} (h : impl_Block_follow_a.vc p0 f1 cap1 f2 cap2 w K) : Cl 120 #[(.pointer (some p0)), (.func (.func f1) #[] cap1), (.func (.func f2) #[] cap2)] w K :=
  vcF_sound mixed (fn := Tryz.f120) (by kernel_rfl) (by kernel_rfl) (an := impl_Block_follow_a.ann) (args := [(.pointer (some p0)), (.func (.func f1) #[] cap1), (.func (.func f2) #[] cap2)]) (Eq.mpr (by kernel_rfl) h)

theorem impl_Block_follow_a.con {s0 : D.Block} {xs1c0 : List Int} {g1_ c0_0 c0_1 c0_2 g5_ c1c0_0 : Nat} {A0_0 A0_1 A0_2 A1c0_0 : OA} {F0_1 : Nat → Prop} {r : Int × D.Block} {w : World} (hp : M.impl_Block_follow_a_pre s0 xs1c0) (hr : r = M.impl_Block_follow_a s0 xs1c0) (O1 : Blk w g1_ 59 (bC A0_0 c0_0 A0_1 c0_1 A0_2 c0_2 s0)) (R0_0 : Row el89 w A0_0 s0.Code) (hc0_0 : s0.Code.length ≤ c0_0) (O3 : OwnW 31 el130 el3 w 0 F0_1 A0_1 c0_1 s0.Warps) (O4 : Own el3 w 0 A0_2 c0_2 s0.Memory) (O5 : Blk w g5_ 24 #[(sv A1c0_0 xs1c0.length c1c0_0)]) (R1c0_0 : Row el3 w A1c0_0 xs1c0) (hc1c0_0 : xs1c0.length ≤ c1c0_0) (N3_4 : Dis (InW A0_1 F0_1) (InB A0_2)) (DB5 : ¬ (fun k_ => InW A0_1 F0_1 k_ ∨ InB A0_2 k_ ∨ k_ = g1_) g5_) (D0_0 : s0.Code ≠ [] → ∀ g, InB A0_0 g → ¬ (fun k_ => InW A0_1 F0_1 k_ ∨ InB A0_2 k_ ∨ k_ = g1_) g) (D1c0_0 : xs1c0 ≠ [] → ∀ g, InB A1c0_0 g → ¬ (fun k_ => InW A0_1 F0_1 k_ ∨ InB A0_2 k_ ∨ k_ = g1_) g) :
    Cl 120 #[(.pointer (some (bx g1_))), (.func (.func 121) #[] #[(.pointer (some (bx g5_)))]), (.func (.func 122) #[] #[])] w (fun v_ w_ => ∃ (A0_ : OA) (c0_ : Nat) (F0_ : Nat → Prop), v_ = (iv r.1) ∧ Blk w_ g1_ 59 #[(sv A0_0 r.2.Code.length c0_0), (sv A0_ r.2.Warps.length c0_), (sv A0_2 s0.Memory.length c0_2), (iv r.2.Waiting), (iv r.2.Phase)] ∧ r.2.Code = s0.Code ∧ OwnW 31 el130 el3 w_ 0 F0_ A0_ c0_ r.2.Warps ∧ MovW w (InW A0_1 F0_1) (InW A0_ F0_) ∧ Own el3 w_ 0 A0_2 c0_2 r.2.Memory ∧ r.2.Memory.length = s0.Memory.length ∧ Chg (fun k_ => InW A0_1 F0_1 k_ ∨ InB A0_2 k_ ∨ k_ = g1_) w w_) := by
 have H := wp.impl_Block_follow_a.math s0 xs1c0 hp
 have hB := Chg.refl (fun k_ => InW A0_1 F0_1 k_ ∨ InB A0_2 k_ ∨ k_ = g1_) w
 refine impl_Block_follow_a.start ?_
 unfold vc
 unfold wp.impl_Block_follow_a at H
 have LM3 := MovW.refl w (InW A0_1 F0_1)
 obtain ⟨J62, ⟨m100, hJ99⟩, hS63⟩ := H
 refine ⟨fun m_ z_ w_ => ∃ (i52 : Int) (xs54 : List D.Warp) (i57 i58 : Int) (xs59 : List Int) (A55 : OA) (c56 : Nat) (F53 : Nat → Prop), z_ = (i52, ()) ∧ J62 m_ (i52, xs54, i57, i58, xs59, ()) ∧ Chg (fun k_ => InW A0_1 F0_1 k_ ∨ InB A0_2 k_ ∨ k_ = g1_) w w_ ∧ Blk w_ g1_ 59 #[(sv A0_0 s0.Code.length c0_0), (sv A55 xs54.length c56), (sv A0_2 s0.Memory.length c0_2), (iv i57), (iv i58)] ∧ OwnW 31 el130 el3 w_ 0 F53 A55 c56 xs54 ∧ MovW w (InW A0_1 F0_1) (InW A55 F53) ∧ Own el3 w_ 0 A0_2 c0_2 xs59 ∧ s0.Memory.length = xs59.length ∧ Blk w_ g5_ 24 #[(sv A1c0_0 xs1c0.length c1c0_0)] ∧ Dis (InW A55 F53) (InB A0_2), ⟨m100, 0, s0.Warps, s0.Waiting, s0.Phase, s0.Memory, A0_1, c0_1, F0_1, rfl, hJ99, hB, O1, O3, LM3, O4, (by first | rfl | assumption | omega | (simp; done) | (simp; omega) | (simp; assumption)), O5, N3_4⟩, ?_⟩
 rintro m61 _ w65 ⟨i52, xs54, i57, i58, xs59, A55, c56, F53, rfl, hJ101, hB, O1, O8, LM8, O4, hn60, O5, N8_4⟩
 have H := hS63 m61 _ hJ101
 clear hS63 hJ101
 try dsimp only at H ⊢
 obtain ⟨hp68, H⟩ := H
 obtain ⟨r66, hr67, H⟩ := callO H
 refine (cllApp (l1 := [_]) (l2 := [_]) (impl_RunPicks_1.con hp68 hr67 O5 (R1c0_0.chgS hB D1c0_0) hc1c0_0)).mono ?_
 rintro _ w69 ⟨rfl, e70⟩
 have O1 := O1.ext e70
 have O4 := O4.ext e70
 have O5 := O5.ext e70
 have O8 := O8.ext e70
 have hB := hB.then e70
 refine ⟨(iv r66.1), r66.1, rfl, (.bool r66.2), r66.2, rfl, rfl, ?_⟩
 refine brc H (fun h H => ?_) fun h H => ?_
 ·cases hr.trans H.symm
  exact ⟨A55, c56, F53, rfl, O1, rfl, (O8.mono (Nat.zero_le _)), LM8, O4, (by first | (simp only [bC, wC, List.length_set]; done) | (simp only [bC, wC, List.length_set, ← hn60]; done) | (simp; done) | (simp; omega) | omega), hB⟩
 refine brc H (fun h H => ?_) fun h H => ?_
 ·cases hr.trans H.symm
  exact ⟨A55, c56, F53, rfl, O1, rfl, (O8.mono (Nat.zero_le _)), LM8, O4, (by first | (simp only [bC, wC, List.length_set]; done) | (simp only [bC, wC, List.length_set, ← hn60]; done) | (simp; done) | (simp; omega) | omega), hB⟩
 refine ⟨_, (O1.a 4), ?_⟩
 refine brc H (fun h H => ?_) fun h H => ?_
 ·cases hr.trans H.symm
  exact ⟨A55, c56, F53, rfl, O1, rfl, (O8.mono (Nat.zero_le _)), LM8, O4, (by first | (simp only [bC, wC, List.length_set]; done) | (simp only [bC, wC, List.length_set, ← hn60]; done) | (simp; done) | (simp; omega) | omega), hB⟩
 refine ⟨_, _, _, (O1.a 0), _, _, _, (O1.a 1), _, _, _, (O1.a 2), _, (O1.a 3), _, (O1.a 4), ?_⟩
 obtain ⟨hp73, H⟩ := H
 obtain ⟨r71, hr72, H⟩ := callO H
 refine (cllArgs (by first | (simp only [bC, wC, List.length_set, ← hn60]; done) | (simp; done)) (impl_Block_pickWarp.con hp73 hr72 (R0_0.chgS hB D0_0) hc0_0 O8.row O8.le O4.row O4.le)).mono ?_
 rintro _ w74 ⟨rfl, e75⟩
 have O1 := O1.ext e75
 have O4 := O4.ext e75
 have O5 := O5.ext e75
 have O8 := O8.ext e75
 have hB := hB.then e75
 refine ⟨r71, rfl, ?_⟩
 refine brc H (fun h H => ?_) fun h H => ?_
 ·cases hr.trans H.symm
  exact ⟨A55, c56, F53, rfl, O1, rfl, (O8.mono (Nat.zero_le _)), LM8, O4, (by first | (simp only [bC, wC, List.length_set]; done) | (simp only [bC, wC, List.length_set, ← hn60]; done) | (simp; done) | (simp; omega) | omega), hB⟩
 obtain ⟨r76, hr77, H⟩ := callO H
 refine (impl_RunPicks_2.con hr77 ).mono ?_
 rintro _ w79 ⟨rfl, e80⟩
 have O1 := O1.ext e80
 have O4 := O4.ext e80
 have O5 := O5.ext e80
 have O8 := O8.ext e80
 have hB := hB.then e80
 refine ⟨rfl, ?_⟩
 obtain ⟨hp83, H⟩ := H
 obtain ⟨r81, hr82, H⟩ := callO H
 refine (impl_Block_pass.con hp83 hr82 (by first | exact O1 | (simp only [bC, wC, List.length_set, ← hn60]; exact O1)) (R0_0.chgS hB D0_0) hc0_0 (O8.mono (Nat.zero_le _)) (O4.mono (Nat.zero_le _)) N8_4 (fun hx_ => (fun g h_ => (fun hS_ => hS_.elim ((fun g h_ hS_ => ((LM8 _ hS_).elim (fun h4_ => Or.inr (Or.inl h4_)) Or.inl).elim (fun h3_ => Nat.not_le.2 (R0_0.old hx_ g h_) h3_) (D0_0 hx_ g h_)) g h_) (fun hS_ => hS_.elim ((fun g h_ hS_ => D0_0 hx_ g h_ (Or.inr (Or.inl hS_))) g h_) ((fun g h_ hS_ => D0_0 hx_ g h_ (Or.inr (Or.inr hS_))) g h_)))))).mono ?_
 rintro _ w84 ⟨A87, c88, F89, rfl, Q1, hq86, Q9, Mv9, Q4, hl90, e85⟩
 simp only [bC, wC, hq86] at Q1
 simp only [bC, wC, List.length_set, ← hn60] at Q1
 try dsimp only at hl90
 have LM9 := LM8.trans Mv9 hB.size
 have N9_4 := Mv9.dis N8_4 O4.oldA
 have O5 := O5.chgS e85 (fun hS_ => hS_.elim (O8.dis_blk O5 (by decide) (by decide) (by decide)) (fun hS_ => hS_.elim ((show Apart A0_2 g5_ from fun a_ ha_ hb_ => DB5 (Or.inr (Or.inl ⟨a_, ha_, hb_⟩)))).inb ((fun h_ => DB5 (Or.inr (Or.inr h_))))))
 have hB := hB.chg e85 (fun g => (fun hS_ => hS_.elim ((fun g h_ => ((LM8 _ h_).elim (fun h4_ => Or.inr (Or.inl h4_)) Or.inl)) g) (fun hS_ => hS_.elim ((fun g h_ => (Or.inr (Or.inr (Or.inl h_)))) g) ((fun g h_ => Or.inr (Or.inr (Or.inr h_))) g))))
 have O1 := Q1
 have O4 := Q4
 have O9 := Q9
 refine ⟨r81.1, rfl, ?_⟩
 obtain ⟨m91, hm92, hJ93⟩ := H
 exact ⟨m91, hm92, _, _, _, _, _, A87, c88, F89, rfl, hJ93, hB, (by first | exact O1 | (simp only [bC, wC, List.length_set, ← hn60, hl90]; exact O1)), O9, LM9, O4, (by first | rfl | assumption | omega | (simp; done) | (simp; omega) | (simp; assumption)), O5, N9_4⟩
def spec_RunPicks.vc (A0_0 : OA) (n0_0 c0_0 : Nat) (A0_1 : OA) (n0_1 c0_1 : Nat) (A0_2 : OA) (n0_2 c0_2 : Nat) (x0_3 x0_4 : Int) (A1 : OA) (n1 c1 : Nat) (w : World) (K : VK) : Prop :=
  newK w (.cells (vB A0_0 n0_0 c0_0 A0_1 n0_1 c0_1 A0_2 n0_2 c0_2 x0_3 x0_4) 59) fun g21 w22 => newK w22 (.cells zC 59) fun g23 w24 => ldB w24 (bx g21) fun A25 n26 c27 A28 n29 c30 A31 n32 c33 n34 n35 => Cl 108 #[(.agg (vB A25 n26 c27 A28 n29 c30 A31 n32 c33 n34 n35))] w24 fun v36 w37 => (∃ (A38 : OA) (n39 c40 : Nat), True ∧ ∃ (A41 : OA) (n42 c43 : Nat), True ∧ ∃ (A44 : OA) (n45 c46 : Nat), True ∧ ∃ (n47 : Int), True ∧ ∃ (n48 : Int), True ∧ v36 = (.agg (vB A38 n39 c40 A41 n42 c43 A44 n45 c46 n47 n48)) ∧ newK w37 (.cells zC 59) fun g49 w50 => stCells (bx g49) [(sv A38 n39 c40), (sv A41 n42 c43), (sv A44 n45 c46), (iv n47), (iv n48)] 0 w50 fun w51 => ldB w51 (bx g21) fun A53 n54 c55 A56 n57 c58 A59 n60 c61 n62 n63 => Cl 114 #[(.agg (vB A53 n54 c55 A56 n57 c58 A59 n60 c61 n62 n63))] w51 fun v64 w65 => (∃ (b66 : Bool), v64 = (.bool b66) ∧ bcase (!b66) (ldB w65 (bx g49) fun A67 n68 c69 A70 n71 c72 A73 n74 c75 n76 n77 => stCells (bx g23) [(sv A67 n68 c69), (sv A70 n71 c72), (sv A73 n74 c75), (iv n76), (iv n77)] 0 w65 fun w78 => ldB w78 (bx g23) fun A79 n80 c81 A82 n83 c84 A85 n86 c87 n88 n89 => K (.tuple #[(.agg (vB A79 n80 c81 A82 n83 c84 A85 n86 c87 n88 n89)), (iv (-1))]) w78) (bcase (decide (((n1 : Nat) : Int) > 400)) (ldB w65 (bx g49) fun A90 n91 c92 A93 n94 c95 A96 n97 c98 n99 n100 => stCells (bx g23) [(sv A90 n91 c92), (sv A93 n94 c95), (sv A96 n97 c98), (iv n99), (iv n100)] 0 w65 fun w101 => ldB w101 (bx g23) fun A102 n103 c104 A105 n106 c107 A108 n109 c110 n111 n112 => K (.tuple #[(.agg (vB A102 n103 c104 A105 n106 c107 A108 n109 c110 n111 n112)), (iv (-1))]) w101) (LoopT (σ := Int × Int × Unit) (fun z113 w114 next115 => bcase (decide (z113.2.1 < ((n1 : Nat) : Int))) ((idx z113.2.1 n1 A1 fun a116 => ldI w114 ((a116.add ((z113.2.1.toNat) * 1)).add 0) fun n117 => bcase (decide (n117 < 0)) (ldB w114 (bx g49) fun A118 n119 c120 A121 n122 c123 A124 n125 c126 n127 n128 => stCells (bx g23) [(sv A118 n119 c120), (sv A121 n122 c123), (sv A124 n125 c126), (iv n127), (iv n128)] 0 w114 fun w129 => ldB w129 (bx g23) fun A130 n131 c132 A133 n134 c135 A136 n137 c138 n139 n140 => K (.tuple #[(.agg (vB A130 n131 c132 A133 n134 c135 A136 n137 c138 n139 n140)), (iv z113.1)]) w129) ((∃ M141 : Nat → Prop, ldSM M141 w114 (bx g49) 0 fun A142 n143 c144 => ldSM M141 w114 (bx g49) 1 fun A145 n146 c147 => ldSM M141 w114 (bx g49) 2 fun A148 n149 c150 => ldIM M141 w114 (bx g49) 3 fun n151 => ldIM M141 w114 (bx g49) 4 fun n152 => (idx z113.2.1 n1 A1 fun a153 => ldIM M141 w114 (a153.add ((z113.2.1.toNat) * 1)) 0 fun n154 => Cl 115 #[(.agg (vB A142 n143 c144 A145 n146 c147 A148 n149 c150 n151 n152)), (iv n154)] w114.drew fun v155 w156 => (∃ (n157 : Int), v155 = (iv n157) ∧ SameBut M141 w114 w156 ∧ bcase (decide (n157 < 0)) (ldB w156 (bx g49) fun A159 n160 c161 A162 n163 c164 A165 n166 c167 n168 n169 => stCells (bx g23) [(sv A159 n160 c161), (sv A162 n163 c164), (sv A165 n166 c167), (iv n168), (iv n169)] 0 w156 fun w170 => ldB w170 (bx g23) fun A171 n172 c173 A174 n175 c176 A177 n178 c179 n180 n181 => K (.tuple #[(.agg (vB A171 n172 c173 A174 n175 c176 A177 n178 c179 n180 n181)), (iv z113.1)]) w170) (ldI w156 (((bx g49).add 4).add 0) fun n182 => bcase (n182 == 100000) (ldB w156 (bx g49) fun A183 n184 c185 A186 n187 c188 A189 n190 c191 n192 n193 => stCells (bx g23) [(sv A183 n184 c185), (sv A186 n187 c188), (sv A189 n190 c191), (iv n192), (iv n193)] 0 w156 fun w194 => ldB w194 (bx g23) fun A195 n196 c197 A198 n199 c200 A201 n202 c203 n204 n205 => K (.tuple #[(.agg (vB A195 n196 c197 A198 n199 c200 A201 n202 c203 n204 n205)), (iv z113.1)]) w194) (ldB w156 (bx g49) fun A206 n207 c208 A209 n210 c211 A212 n213 c214 n215 n216 => Cl 109 #[(.agg (vB A206 n207 c208 A209 n210 c211 A212 n213 c214 n215 n216)), (iv n157)] w156 fun v217 w218 => (∃ (A219 : OA) (n220 c221 : Nat), True ∧ ∃ (A222 : OA) (n223 c224 : Nat), True ∧ ∃ (A225 : OA) (n226 c227 : Nat), True ∧ ∃ (n228 : Int), True ∧ ∃ (n229 : Int), True ∧ v217 = (.agg (vB A219 n220 c221 A222 n223 c224 A225 n226 c227 n228 n229)) ∧ stCells (bx g49) [(sv A219 n220 c221), (sv A222 n223 c224), (sv A225 n226 c227), (iv n228), (iv n229)] 0 w218 fun w230 => next115 ((wrap .i64 (z113.1 + 1)), (wrap .i64 (z113.2.1 + 1)), ()) w230))))))))) (ldB w114 (bx g49) fun A231 n232 c233 A234 n235 c236 A237 n238 c239 n240 n241 => stCells (bx g23) [(sv A231 n232 c233), (sv A234 n235 c236), (sv A237 n238 c239), (iv n240), (iv n241)] 0 w114 fun w242 => ldB w242 (bx g23) fun A243 n244 c245 A246 n247 c248 A249 n250 c251 n252 n253 => K (.tuple #[(.agg (vB A243 n244 c245 A246 n247 c248 A249 n250 c251 n252 n253)), (iv z113.1)]) w242)) (0, 0, ()) w65))))

def spec_RunPicks.ann : Ann := (.seq .l (.seq .l (.seq (.seq .l (.two (.seq .l .l) .l)) (.seq .l (.seq (.seq .l (.one (.loop [(7, .int .i64), (8, .int .i64)] (.seq (.seq .l (.two .l .l)) (.seq (.one (.seq (.seq .l (.two .l .l)) (.seq .l (.seq (.seq .l (.two .l .l)) (.seq .l .l))))) .l))))) (.seq .l .l))))))

theorem spec_RunPicks.con {s0 : D.Block} {A0_0 A0_1 A0_2 A1 : OA} {c0_0 c0_1 c0_2 c1 : Nat} {xs1 : List Int} {r : D.Block × Int} {w : World} (hp : M.spec_RunPicks_pre s0 xs1) (hr : r = M.spec_RunPicks s0 xs1) (R0_0 : Row el89 w A0_0 s0.Code) (hc0_0 : s0.Code.length ≤ c0_0) (R0_1 : RowW 31 el130 el3 w A0_1 s0.Warps) (hc0_1 : s0.Warps.length ≤ c0_1) (R0_2 : Row el3 w A0_2 s0.Memory) (hc0_2 : s0.Memory.length ≤ c0_2) (R1 : Row el3 w A1 xs1) (hc1 : xs1.length ≤ c1) :
    Cl 51 #[(.agg (bC A0_0 c0_0 A0_1 c0_1 A0_2 c0_2 s0)), (sv A1 xs1.length c1)] w (fun v_ w_ => ∃ (A0_ : OA) (c0_ : Nat) (A1_ : OA) (c1_ : Nat) (F1_ : Nat → Prop) (A2_ : OA) (c2_ : Nat), v_ = (.tuple #[(.agg (bC A0_ c0_ A1_ c1_ A2_ c2_ r.1)), (iv r.2)]) ∧ Own el89 w_ w.heap.size A0_ c0_ r.1.Code ∧ OwnW 31 el130 el3 w_ w.heap.size F1_ A1_ c1_ r.1.Warps ∧ Own el3 w_ w.heap.size A2_ c2_ r.1.Memory ∧ Dis (InW A1_ F1_) (InB A2_) ∧ Ext w w_) := by
 have H := wp.spec_RunPicks.math s0 xs1 hp
 refine begK mixed Tryz.f51 ann (vc A0_0 s0.Code.length c0_0 A0_1 s0.Warps.length c0_1 A0_2 s0.Memory.length c0_2 s0.Waiting s0.Phase A1 xs1.length c1) ?_
 unfold vc
 unfold wp.spec_RunPicks at H
 refine newBlk (fun g5_ w21 L5 O5 e22 => ?_)
 have hB := ethen (Ext.refl w) e22
 refine newBlk (fun g6_ w23 L6 P6 e24 => ?_)
 have O5 := O5.ext e24
 have O6 := P6
 have L6 := Nat.le_trans hB.size L6
 have hB := ethen hB e24
 refine ⟨_, _, _, (O5.a 0), _, _, _, (O5.a 1), _, _, _, (O5.a 2), _, (O5.a 3), _, (O5.a 4), ?_⟩
 obtain ⟨hp27, H⟩ := H
 obtain ⟨r25, hr26, H⟩ := callO H
 refine (spec_l29Copy.con hp27 hr26 (R0_0.ext hB) hc0_0 (R0_1.ext hB) hc0_1 (R0_2.ext hB) hc0_2).mono ?_
 rintro _ w28 ⟨A30, c31, A32, c33, F36, A34, c35, rfl, P7, P8, P9, N8_9, e29⟩
 have N7_6 := P7.apart_old O6.lt
 have N8_6 := P8.new_disbox O6 (Nat.le_refl _)
 have N9_6 := P9.apart_old O6.lt
 have O6 := O6.ext e29
 have O7 := P7.mono hB.size
 have O8 := P8.mono hB.size
 have O9 := P9.mono hB.size
 have hB := ethen hB e29
 refine ⟨A30, r25.Code.length, c31, trivial, A32, r25.Warps.length, c33, trivial, A34, r25.Memory.length, c35, trivial, r25.Waiting, trivial, r25.Phase, trivial, rfl, ?_⟩
 refine newSt (bC A30 c31 A32 c33 A34 c35 r25) (fun g10_ w39 L10 P10 e40 => ?_)
 have N6_10 := O6.ne L10
 have O5 := (O5.ext e29).ext e40
 have L10 := Nat.le_trans hB.size L10
 have hB := ethen hB e40
 refine ⟨_, _, _, (O5.a 0), _, _, _, (O5.a 1), _, _, _, (O5.a 2), _, (O5.a 3), _, (O5.a 4), ?_⟩
 obtain ⟨hp43, H⟩ := H
 obtain ⟨r41, hr42, H⟩ := callO H
 refine (spec_BlockOk.con hp43 hr42 (R0_0.ext hB) hc0_0 (R0_1.ext hB) hc0_1 (R0_2.ext hB) hc0_2).mono ?_
 rintro _ w44 ⟨rfl, e45⟩
 have O6 := (O6.ext e40).ext e45
 have O7 := (O7.ext e40).ext e45
 have O8 := (O8.ext e40).ext e45
 have O9 := (O9.ext e40).ext e45
 have O10 := P10.ext e45
 have hB := ethen hB e45
 refine ⟨r41, rfl, ?_⟩
 refine brc H (fun h H => ?_) fun h H => ?_
 ·refine ⟨_, _, _, (O10.a 0), _, _, _, (O10.a 1), _, _, _, (O10.a 2), _, (O10.a 3), _, (O10.a 4), ?_⟩
  refine stBlk O6 (o := 0) (cs' := (bC A30 c31 A32 c33 A34 c35 r25)) rfl rfl (Nat.le_of_ble_eq_true rfl) rfl (fun w46 O6 e47 => ?_)
  have O7 := O7.chg e47 N7_6
  have O8 := O8.chg e47 N8_6
  have O9 := O9.chg e47 N9_6
  have hB := echg hB e47 L6
  refine ⟨_, _, _, (O6.a 0), _, _, _, (O6.a 1), _, _, _, (O6.a 2), _, (O6.a 3), _, (O6.a 4), ?_⟩
  cases hr.trans H.symm
  exact ⟨A30, c31, A32, c33, F36, A34, c35, rfl, O7, O8, O9, N8_9, hB⟩
 refine brc H (fun h H => ?_) fun h H => ?_
 ·refine ⟨_, _, _, (O10.a 0), _, _, _, (O10.a 1), _, _, _, (O10.a 2), _, (O10.a 3), _, (O10.a 4), ?_⟩
  refine stBlk O6 (o := 0) (cs' := (bC A30 c31 A32 c33 A34 c35 r25)) rfl rfl (Nat.le_of_ble_eq_true rfl) rfl (fun w48 O6 e49 => ?_)
  have O7 := O7.chg e49 N7_6
  have O8 := O8.chg e49 N8_6
  have O9 := O9.chg e49 N9_6
  have hB := echg hB e49 L6
  refine ⟨_, _, _, (O6.a 0), _, _, _, (O6.a 1), _, _, _, (O6.a 2), _, (O6.a 3), _, (O6.a 4), ?_⟩
  cases hr.trans H.symm
  exact ⟨A30, c31, A32, c33, F36, A34, c35, rfl, O7, O8, O9, N8_9, hB⟩
 obtain ⟨J108, ⟨m159, hJ158⟩, hS109⟩ := H
 refine ⟨fun m_ z_ w_ => ∃ (i93 i94 : Int) (xs95 : List D.Ins) (xs99 : List D.Warp) (xs102 : List Int) (i105 i106 : Int) (A96 : OA) (c97 : Nat) (A100 : OA) (c101 : Nat) (F98 : Nat → Prop) (A103 : OA) (c104 : Nat), z_ = (i93, i94, ()) ∧ J108 m_ (i93, i94, xs95, xs99, xs102, i105, i106, ()) ∧ Ext w w_ ∧ Blk w_ g10_ 59 #[(sv A96 xs95.length c97), (sv A100 xs99.length c101), (sv A103 xs102.length c104), (iv i105), (iv i106)] ∧ Own el89 w_ w.heap.size A96 c97 xs95 ∧ OwnW 31 el130 el3 w_ w.heap.size F98 A100 c101 xs99 ∧ Own el3 w_ w.heap.size A103 c104 xs102 ∧ Blk w_ g6_ 59 zC ∧ Dis (InW A100 F98) (InB A103), ⟨m159, 0, 0, r25.Code, r25.Warps, r25.Memory, r25.Waiting, r25.Phase, A30, c31, A32, c33, F36, A34, c35, rfl, hJ158, hB, O10, O7, O8, O9, O6, N8_9⟩, ?_⟩
 rintro m107 _ w111 ⟨i93, i94, xs95, xs99, xs102, i105, i106, A96, c97, A100, c101, F98, A103, c104, rfl, hJ160, hB, O10, O14, O15, O16, O6, N15_16⟩
 have H := hS109 m107 _ hJ160
 clear hS109 hJ160
 try dsimp only at H ⊢
 refine brc H (fun h H => ?_) fun h H => ?_
 ·obtain ⟨⟨h0_115, h1_116⟩, H⟩ := H
  obtain ⟨a113, ha114, hat112⟩ := Row.at (R1.ext hB) h0_115 h1_116
  refine ⟨h0_115, h1_116, a113, ha114, _, (hat112 0 _ rfl), ?_⟩
  refine brc H (fun h H => ?_) fun h H => ?_
  ·refine ⟨_, _, _, (O10.a 0), _, _, _, (O10.a 1), _, _, _, (O10.a 2), _, (O10.a 3), _, (O10.a 4), ?_⟩
   refine stB O6 0 #[(sv A96 xs95.length c97), (sv A100 xs99.length c101), (sv A103 xs102.length c104), (iv i105), (iv i106)] (fun w117 P6 e118 => ?_)
   have O14 := O14.chg e118 (O14.apart_type O6 (by decide))
   have O15 := O15.chg e118 (O15.dis_blk O6 (by decide) (by decide) (by decide))
   have O16 := O16.chg e118 (O16.apart_type O6 (by decide))
   have hB := echg hB e118 L6
   have O6 := P6
   refine ⟨_, _, _, (O6.a 0), _, _, _, (O6.a 1), _, _, _, (O6.a 2), _, (O6.a 3), _, (O6.a 4), ?_⟩
   cases hr.trans H.symm
   exact ⟨A96, c97, A100, c101, F98, A103, c104, rfl, O14, O15, O16, N15_16, hB⟩
  refine ⟨(fun _ => False), _, _, _, noM (O10.a 0), _, _, _, noM (O10.a 1), _, _, _, noM (O10.a 2), _, noM (O10.a 3), _, noM (O10.a 4), ?_⟩
  obtain ⟨⟨h0_123, h1_124⟩, H⟩ := H
  obtain ⟨a121, ha122, hat120⟩ := Row.at (R1.ext hB) h0_123 h1_124
  refine ⟨h0_123, h1_124, a121, ha122, _, ⟨(fun h_ => h_), (hat120 0 _ rfl)⟩, ?_⟩
  have O6 := O6.ext (Ext.drew _)
  have O10 := O10.ext (Ext.drew _)
  have O14 := O14.ext (Ext.drew _)
  have O15 := O15.ext (Ext.drew _)
  have O16 := O16.ext (Ext.drew _)
  have hB := ethen hB (Ext.drew _)
  have hS119 := (Chg.refl (fun _ => False) w111).then (Ext.drew _)
  obtain ⟨hp127, H⟩ := H
  obtain ⟨r125, hr126, H⟩ := callO H
  refine (spec_l32Pick.con hp127 hr126 O14.row O14.le O15.row O15.le O16.row O16.le).mono ?_
  rintro _ w128 ⟨rfl, e129⟩
  have O6 := O6.ext e129
  have O10 := O10.ext e129
  have O14 := O14.ext e129
  have O15 := O15.ext e129
  have O16 := O16.ext e129
  have hB := ethen hB e129
  have hS119 := hS119.then e129
  refine ⟨r125, rfl, sameBut_chg hS119, ?_⟩
  refine brc H (fun h H => ?_) fun h H => ?_
  ·refine ⟨_, _, _, (O10.a 0), _, _, _, (O10.a 1), _, _, _, (O10.a 2), _, (O10.a 3), _, (O10.a 4), ?_⟩
   refine stB O6 0 #[(sv A96 xs95.length c97), (sv A100 xs99.length c101), (sv A103 xs102.length c104), (iv i105), (iv i106)] (fun w130 P6 e131 => ?_)
   have O14 := O14.chg e131 (O14.apart_type O6 (by decide))
   have O15 := O15.chg e131 (O15.dis_blk O6 (by decide) (by decide) (by decide))
   have O16 := O16.chg e131 (O16.apart_type O6 (by decide))
   have hB := echg hB e131 L6
   have O6 := P6
   refine ⟨_, _, _, (O6.a 0), _, _, _, (O6.a 1), _, _, _, (O6.a 2), _, (O6.a 3), _, (O6.a 4), ?_⟩
   cases hr.trans H.symm
   exact ⟨A96, c97, A100, c101, F98, A103, c104, rfl, O14, O15, O16, N15_16, hB⟩
  refine ⟨_, (O10.a 4), ?_⟩
  refine brc H (fun h H => ?_) fun h H => ?_
  ·refine ⟨_, _, _, (O10.a 0), _, _, _, (O10.a 1), _, _, _, (O10.a 2), _, (O10.a 3), _, (O10.a 4), ?_⟩
   refine stB O6 0 #[(sv A96 xs95.length c97), (sv A100 xs99.length c101), (sv A103 xs102.length c104), (iv i105), (iv i106)] (fun w132 P6 e133 => ?_)
   have O14 := O14.chg e133 (O14.apart_type O6 (by decide))
   have O15 := O15.chg e133 (O15.dis_blk O6 (by decide) (by decide) (by decide))
   have O16 := O16.chg e133 (O16.apart_type O6 (by decide))
   have hB := echg hB e133 L6
   have O6 := P6
   refine ⟨_, _, _, (O6.a 0), _, _, _, (O6.a 1), _, _, _, (O6.a 2), _, (O6.a 3), _, (O6.a 4), ?_⟩
   cases hr.trans H.symm
   exact ⟨A96, c97, A100, c101, F98, A103, c104, rfl, O14, O15, O16, N15_16, hB⟩
  refine ⟨_, _, _, (O10.a 0), _, _, _, (O10.a 1), _, _, _, (O10.a 2), _, (O10.a 3), _, (O10.a 4), ?_⟩
  obtain ⟨hp136, H⟩ := H
  obtain ⟨r134, hr135, H⟩ := callO H
  refine (spec_l30Step.con hp136 hr135 O14.row O14.le O15.row O15.le O16.row O16.le).mono ?_
  rintro _ w137 ⟨A139, c140, A141, c142, F145, A143, c144, rfl, P17, P18, P19, N18_19, e138⟩
  have N17_10 := P17.apart_old O10.lt
  have N18_10 := P18.new_disbox O10 (Nat.le_refl _)
  have N19_10 := P19.apart_old O10.lt
  have O10 := O10.ext e138
  have O17 := P17.mono hB.size
  have O18 := P18.mono hB.size
  have O19 := P19.mono hB.size
  have hB := ethen hB e138
  refine ⟨A139, r134.Code.length, c140, trivial, A141, r134.Warps.length, c142, trivial, A143, r134.Memory.length, c144, trivial, r134.Waiting, trivial, r134.Phase, trivial, rfl, ?_⟩
  refine stB O10 0 (bC A139 c140 A141 c142 A143 c144 r134) (fun w146 P10 e147 => ?_)
  have O6 := (O6.ext e138).chg e147 N6_10
  have O17 := O17.chg e147 N17_10
  have O18 := O18.chg e147 N18_10
  have O19 := O19.chg e147 N19_10
  have hB := echg hB e147 L10
  have O10 := P10
  obtain ⟨m148, hm149, hJ150⟩ := H
  exact ⟨m148, hm149, _, _, _, _, _, _, _, A139, c140, A141, c142, F145, A143, c144, rfl, hJ150, hB, O10, O17, O18, O19, O6, N18_19⟩
 refine ⟨_, _, _, (O10.a 0), _, _, _, (O10.a 1), _, _, _, (O10.a 2), _, (O10.a 3), _, (O10.a 4), ?_⟩
 refine stB O6 0 #[(sv A96 xs95.length c97), (sv A100 xs99.length c101), (sv A103 xs102.length c104), (iv i105), (iv i106)] (fun w154 P6 e155 => ?_)
 have O14 := O14.chg e155 (O14.apart_type O6 (by decide))
 have O15 := O15.chg e155 (O15.dis_blk O6 (by decide) (by decide) (by decide))
 have O16 := O16.chg e155 (O16.apart_type O6 (by decide))
 have hB := echg hB e155 L6
 have O6 := P6
 refine ⟨_, _, _, (O6.a 0), _, _, _, (O6.a 1), _, _, _, (O6.a 2), _, (O6.a 3), _, (O6.a 4), ?_⟩
 cases hr.trans H.symm
 exact ⟨A96, c97, A100, c101, F98, A103, c104, rfl, O14, O15, O16, N15_16, hB⟩
def impl_RunPicks.vc (A0_0 : OA) (n0_0 c0_0 : Nat) (A0_1 : OA) (n0_1 c0_1 : Nat) (A0_2 : OA) (n0_2 c0_2 : Nat) (x0_3 x0_4 : Int) (A1 : OA) (n1 c1 : Nat) (w : World) (K : VK) : Prop :=
  newK w (.cells (vB A0_0 n0_0 c0_0 A0_1 n0_1 c0_1 A0_2 n0_2 c0_2 x0_3 x0_4) 59) fun g21 w22 => newK w22 (.cells #[(sv A1 n1 c1)] 24) fun g23 w24 => newK w24 (.cells zC 59) fun g25 w26 => ldB w26 (bx g21) fun A27 n28 c29 A30 n31 c32 A33 n34 c35 n36 n37 => Cl 110 #[(.agg (vB A27 n28 c29 A30 n31 c32 A33 n34 c35 n36 n37))] w26 fun v38 w39 => (∃ (A40 : OA) (n41 c42 : Nat), True ∧ ∃ (A43 : OA) (n44 c45 : Nat), True ∧ ∃ (A46 : OA) (n47 c48 : Nat), True ∧ ∃ (n49 : Int), True ∧ ∃ (n50 : Int), True ∧ v38 = (.agg (vB A40 n41 c42 A43 n44 c45 A46 n47 c48 n49 n50)) ∧ newK w39 (.cells zC 59) fun g51 w52 => stCells (bx g51) [(sv A40 n41 c42), (sv A43 n44 c45), (sv A46 n47 c48), (iv n49), (iv n50)] 0 w52 fun w53 => ldB w53 (bx g21) fun A55 n56 c57 A58 n59 c60 A61 n62 c63 n64 n65 => Cl 116 #[(.agg (vB A55 n56 c57 A58 n59 c60 A61 n62 c63 n64 n65))] w53 fun v66 w67 => (∃ (b68 : Bool), v66 = (.bool b68) ∧ bcase (!b68) (ldB w67 (bx g51) fun A69 n70 c71 A72 n73 c74 A75 n76 c77 n78 n79 => stCells (bx g25) [(sv A69 n70 c71), (sv A72 n73 c74), (sv A75 n76 c77), (iv n78), (iv n79)] 0 w67 fun w80 => ldB w80 (bx g25) fun A81 n82 c83 A84 n85 c86 A87 n88 c89 n90 n91 => K (.tuple #[(.agg (vB A81 n82 c83 A84 n85 c86 A87 n88 c89 n90 n91)), (iv (-1))]) w80) (ldS w67 ((bx g23).add 0) fun A92 n93 c94 => bcase (decide (((n93 : Nat) : Int) > 400)) (ldB w67 (bx g51) fun A95 n96 c97 A98 n99 c100 A101 n102 c103 n104 n105 => stCells (bx g25) [(sv A95 n96 c97), (sv A98 n99 c100), (sv A101 n102 c103), (iv n104), (iv n105)] 0 w67 fun w106 => ldB w106 (bx g25) fun A107 n108 c109 A110 n111 c112 A113 n114 c115 n116 n117 => K (.tuple #[(.agg (vB A107 n108 c109 A110 n111 c112 A113 n114 c115 n116 n117)), (iv (-1))]) w106) (Cl 120 #[(.pointer (some (bx g51))), (.func (.func 121) #[] #[(.pointer (some (bx g23)))]), (.func (.func 122) #[] #[])] w67 fun v118 w119 => (∃ (n120 : Int), v118 = (iv n120) ∧ ldB w119 (bx g51) fun A121 n122 c123 A124 n125 c126 A127 n128 c129 n130 n131 => stCells (bx g25) [(sv A121 n122 c123), (sv A124 n125 c126), (sv A127 n128 c129), (iv n130), (iv n131)] 0 w119 fun w132 => ldB w132 (bx g25) fun A133 n134 c135 A136 n137 c138 A139 n140 c141 n142 n143 => K (.tuple #[(.agg (vB A133 n134 c135 A136 n137 c138 A139 n140 c141 n142 n143)), (iv n120)]) w132)))))

def impl_RunPicks.ann : Ann := (.seq .l (.seq .l (.seq (.seq .l (.two (.seq .l .l) .l)) (.seq .l (.seq .l .l)))))

theorem impl_RunPicks.con {s0 : D.Block} {A0_0 A0_1 A0_2 A1 : OA} {c0_0 c0_1 c0_2 c1 : Nat} {xs1 : List Int} {r : D.Block × Int} {w : World} (hp : M.impl_RunPicks_pre s0 xs1) (hr : r = M.impl_RunPicks s0 xs1) (R0_0 : Row el89 w A0_0 s0.Code) (hc0_0 : s0.Code.length ≤ c0_0) (R0_1 : RowW 31 el130 el3 w A0_1 s0.Warps) (hc0_1 : s0.Warps.length ≤ c0_1) (R0_2 : Row el3 w A0_2 s0.Memory) (hc0_2 : s0.Memory.length ≤ c0_2) (R1 : Row el3 w A1 xs1) (hc1 : xs1.length ≤ c1) :
    Cl 53 #[(.agg (bC A0_0 c0_0 A0_1 c0_1 A0_2 c0_2 s0)), (sv A1 xs1.length c1)] w (fun v_ w_ => ∃ (A0_ : OA) (c0_ : Nat) (A1_ : OA) (c1_ : Nat) (F1_ : Nat → Prop) (A2_ : OA) (c2_ : Nat), v_ = (.tuple #[(.agg (bC A0_ c0_ A1_ c1_ A2_ c2_ r.1)), (iv r.2)]) ∧ Own el89 w_ w.heap.size A0_ c0_ r.1.Code ∧ OwnW 31 el130 el3 w_ w.heap.size F1_ A1_ c1_ r.1.Warps ∧ Own el3 w_ w.heap.size A2_ c2_ r.1.Memory ∧ Dis (InW A1_ F1_) (InB A2_) ∧ Ext w w_) := by
 have H := wp.impl_RunPicks.math s0 xs1 hp
 refine begK mixed Tryz.f53 ann (vc A0_0 s0.Code.length c0_0 A0_1 s0.Warps.length c0_1 A0_2 s0.Memory.length c0_2 s0.Waiting s0.Phase A1 xs1.length c1) ?_
 unfold vc
 unfold wp.impl_RunPicks at H
 refine newBlk (fun g5_ w21 L5 O5 e22 => ?_)
 refine newBlk (fun g6_ w23 L6 O6 e24 => ?_)
 have hB := ethen (ethen (Ext.refl w) e22) e24
 refine newBlk (fun g7_ w25 L7 P7 e26 => ?_)
 have O5 := (O5.ext e24).ext e26
 have O6 := O6.ext e26
 have O7 := P7
 have L7 := Nat.le_trans hB.size L7
 have hB := ethen hB e26
 refine ⟨_, _, _, (O5.a 0), _, _, _, (O5.a 1), _, _, _, (O5.a 2), _, (O5.a 3), _, (O5.a 4), ?_⟩
 obtain ⟨hp29, H⟩ := H
 obtain ⟨r27, hr28, H⟩ := callO H
 refine (impl_copyBlock.con hp29 hr28 (R0_0.ext hB) hc0_0 (R0_1.ext hB) hc0_1 (R0_2.ext hB) hc0_2).mono ?_
 rintro _ w30 ⟨A32, c33, A34, c35, F38, A36, c37, rfl, P8, P9, P10, N9_10, e31⟩
 have N8_7 := P8.apart_old O7.lt
 have N9_6 := P9.new_disbox O6 (Nat.le_refl _)
 have N9_7 := P9.new_disbox O7 (Nat.le_refl _)
 have N10_6 := P10.apart_old O6.lt
 have N10_7 := P10.apart_old O7.lt
 have O5 := O5.ext e31
 have O6 := O6.ext e31
 have O7 := O7.ext e31
 have O8 := P8.mono hB.size
 have O9 := P9.mono hB.size
 have O10 := P10.mono hB.size
 have hB := ethen hB e31
 refine ⟨A32, r27.Code.length, c33, trivial, A34, r27.Warps.length, c35, trivial, A36, r27.Memory.length, c37, trivial, r27.Waiting, trivial, r27.Phase, trivial, rfl, ?_⟩
 refine newBlk (fun g11_ w39 L11 P11 e40 => ?_)
 have N5_11 := O5.ne L11
 have N6_11 := O6.ne L11
 have N7_11 := O7.ne L11
 have N8_11 := O8.apart_new L11
 have N9_11 := O9.dis_newbox L11
 have N10_11 := O10.apart_new L11
 have O8 := O8.ext e40
 have O10 := O10.ext e40
 have O11 := P11
 have L11 := Nat.le_trans hB.size L11
 have hB := ethen hB e40
 refine stBlk O11 (o := 0) (cs' := (bC A32 c33 A34 c35 A36 c37 r27)) rfl rfl (Nat.le_of_ble_eq_true rfl) rfl (fun w41 O11 e42 => ?_)
 have O5 := (O5.ext e40).chg e42 N5_11
 have O8_ := O8.chg e42 N8_11
 have O10_ := O10.chg e42 N10_11
 have hB := echg hB e42 L11
 refine ⟨_, _, _, (O5.a 0), _, _, _, (O5.a 1), _, _, _, (O5.a 2), _, (O5.a 3), _, (O5.a 4), ?_⟩
 obtain ⟨hp45, H⟩ := H
 obtain ⟨r43, hr44, H⟩ := callO H
 refine (impl_BlockOk.con hp45 hr44 (R0_0.ext hB) hc0_0 (R0_1.ext hB) hc0_1 (R0_2.ext hB) hc0_2).mono ?_
 rintro _ w46 ⟨rfl, e47⟩
 have O6 := ((O6.ext e40).chg e42 N6_11).ext e47
 have O7 := ((O7.ext e40).chg e42 N7_11).ext e47
 have O8 := O8_.ext e47
 have O9 := ((O9.ext e40).chg e42 N9_11).ext e47
 have O10 := O10_.ext e47
 have O11 := O11.ext e47
 have hB := ethen hB e47
 refine ⟨r43, rfl, ?_⟩
 refine brc H (fun h H => ?_) fun h H => ?_
 ·refine ⟨_, _, _, (O11.a 0), _, _, _, (O11.a 1), _, _, _, (O11.a 2), _, (O11.a 3), _, (O11.a 4), ?_⟩
  refine stBlk O7 (o := 0) (cs' := (bC A32 c33 A34 c35 A36 c37 r27)) rfl rfl (Nat.le_of_ble_eq_true rfl) rfl (fun w48 O7 e49 => ?_)
  have O8 := O8.chg e49 N8_7
  have O9 := O9.chg e49 N9_7
  have O10 := O10.chg e49 N10_7
  have hB := echg hB e49 L7
  refine ⟨_, _, _, (O7.a 0), _, _, _, (O7.a 1), _, _, _, (O7.a 2), _, (O7.a 3), _, (O7.a 4), ?_⟩
  cases hr.trans H.symm
  exact ⟨A32, c33, A34, c35, F38, A36, c37, rfl, O8, O9, O10, N9_10, hB⟩
 refine ⟨_, _, _, (O6.a 0), ?_⟩
 refine brc H (fun h H => ?_) fun h H => ?_
 ·refine ⟨_, _, _, (O11.a 0), _, _, _, (O11.a 1), _, _, _, (O11.a 2), _, (O11.a 3), _, (O11.a 4), ?_⟩
  refine stBlk O7 (o := 0) (cs' := (bC A32 c33 A34 c35 A36 c37 r27)) rfl rfl (Nat.le_of_ble_eq_true rfl) rfl (fun w50 O7 e51 => ?_)
  have O8 := O8.chg e51 N8_7
  have O9 := O9.chg e51 N9_7
  have O10 := O10.chg e51 N10_7
  have hB := echg hB e51 L7
  refine ⟨_, _, _, (O7.a 0), _, _, _, (O7.a 1), _, _, _, (O7.a 2), _, (O7.a 3), _, (O7.a 4), ?_⟩
  cases hr.trans H.symm
  exact ⟨A32, c33, A34, c35, F38, A36, c37, rfl, O8, O9, O10, N9_10, hB⟩
 obtain ⟨hp54, H⟩ := H
 obtain ⟨r52, hr53, H⟩ := callO H
 refine (impl_Block_follow_a.con hp54 hr53 O11 O8.row O8.le (O9.mono (Nat.zero_le _)) (O10.mono (Nat.zero_le _)) O6 (R1.ext hB) hc1 N9_10 (fun hS_ => hS_.elim N9_6 (fun hS_ => hS_.elim (N10_6).inb (N6_11))) (fun _ => (fun g h_ => (fun hS_ => hS_.elim (((O9.dis_type O8 (by decide) (by decide) (by decide))).symm g h_) (fun hS_ => hS_.elim (((Own.apart2_type O8 O10 (by decide))).inb g h_) ((box_inb N8_11) g h_))))) (fun hx_ => (fun g h_ => (fun hS_ => hS_.elim ((fun g h_ hS_ => Nat.not_le.2 (R1.old hx_ g h_) (O9.lowW g hS_)) g h_) (fun hS_ => hS_.elim ((fun g h_ hS_ => Nat.not_le.2 (R1.old hx_ g h_) (O10.low g hS_)) g h_) ((fun g h_ hS_ => Nat.not_le.2 (R1.old hx_ g h_) (box_low L11 _ hS_)) g h_)))))).mono ?_
 rintro _ w55 ⟨A58, c59, F60, rfl, Q11, hq57, Q12, Mv12, Q10, hl61, e56⟩
 simp only [bC, wC, hq57] at Q11
 try dsimp only at hl61
 have N12_10 := Mv12.dis N9_10 O10.oldA
 have Lw12 := Mv12.low O9.lowW hB.size
 have O7 := O7.chgS e56 (fun hS_ => hS_.elim N9_7 (fun hS_ => hS_.elim (N10_7).inb (N7_11)))
 have O8 := O8.chgS e56 (fun g h_ => (fun hS_ => hS_.elim (((O9.dis_type O8 (by decide) (by decide) (by decide))).symm g h_) (fun hS_ => hS_.elim (((Own.apart2_type O8 O10 (by decide))).inb g h_) ((box_inb N8_11) g h_))))
 have hB := Chg.ext hB e56 (fun g => (fun hS_ => hS_.elim (O9.lowW g) (fun hS_ => hS_.elim (O10.low g) ((box_low L11) g))))
 have O11 := Q11
 have O12 := Q12.lift Lw12
 refine ⟨r52.1, rfl, _, _, _, (O11.a 0), _, _, _, (O11.a 1), _, _, _, (O11.a 2), _, (O11.a 3), _, (O11.a 4), ?_⟩
 refine stB O7 0 #[(sv A32 r27.Code.length c33), (sv A58 r52.2.Warps.length c59), (sv A36 r27.Memory.length c37), (iv r52.2.Waiting), (iv r52.2.Phase)] (fun w62 P7 e63 => ?_)
 have O8 := O8.chg e63 N8_7
 have O10 := (Q10.up O10).chg e63 N10_7
 have O12 := O12.chg e63 (O12.dis_blk O7 (by decide) (by decide) (by decide))
 have hB := echg hB e63 L7
 have O7 := P7
 refine ⟨_, _, _, (O7.a 0), _, _, _, (O7.a 1), _, _, _, (O7.a 2), _, (O7.a 3), _, (O7.a 4), ?_⟩
 cases hr.trans H.symm
 exact ⟨A32, c33, A58, c59, F60, A36, c37, (by first | rfl | (simp; done) | (simp; omega) | (simp [*]; done)), (by first | exact O8 | (simp only [bC, wC, List.length_set]; exact O8)), (by first | exact O12 | (simp only [bC, wC, List.length_set]; exact O12)), (by first | exact O10 | (simp only [bC, wC, List.length_set]; exact O10)), N12_10, hB⟩
end Go.V
