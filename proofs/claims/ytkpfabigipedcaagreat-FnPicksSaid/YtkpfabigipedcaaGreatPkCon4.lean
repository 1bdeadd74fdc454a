import Derived.Test.YtkpfabigipedcaaGreatPkCon3
namespace Go.V
open Go.Proofs
open IntKind (wrap)
set_option linter.unusedVariables false
set_option linter.unusedSimpArgs false
set_option maxRecDepth 100000
def qcE.vc (p0 : Addr) (w : World) (K : VK) : Prop :=
  newK w (.cells zC 33) fun g21 w22 => Cl 85 #[(.pointer (some p0))] w22 fun v23 w24 => (∃ (A25 : OA) (n26 c27 : Nat), v23 = (sv A25 n26 c27) ∧ Cl 67 #[(.pointer (some p0)), (iv 3)] w24 fun v28 w29 => (∃ (n30 : Int), v28 = (iv n30) ∧ Cl 115 #[(sv A25 n26 c27), (iv (wrap .i64 (1 + n30)))] w29 fun v31 w32 => (∃ u33 : Value, (∃ (A34 : OA) (n35 c36 : Nat), True ∧ ∃ (A37 : OA) (n38 c39 : Nat), True ∧ ∃ (A40 : OA) (n41 c42 : Nat), True ∧ ∃ (n43 : Int), True ∧ ∃ (n44 : Int), True ∧ u33 = (.agg (vB A34 n35 c36 A37 n38 c39 A40 n41 c42 n43 n44)) ∧ ∃ u45 : Value, (∃ (b46 : Bool), u45 = (.bool b46) ∧ v31 = (.tuple #[(.agg (vB A34 n35 c36 A37 n38 c39 A40 n41 c42 n43 n44)), (.bool b46)]) ∧ newK w32 (.cells zC 33) fun g47 w48 => qa7 (bx g47) [(sv A34 n35 c36), (sv A37 n38 c39), (sv A40 n41 c42), (iv n43), (iv n44)] 0 w48 fun w49 => qfL (σ := Unit) (fun J50 => Cl 116 #[(.pointer (some p0)), (iv 3)] w49 fun v51 w52 => (∃ (b53 : Bool), v51 = (.bool b53) ∧ qa1 b53 (Cl 117 #[(.pointer (some p0)), (iv 32)] w52 fun v54 w55 => (∃ (A56 : OA) (n57 c58 : Nat), v54 = (sv A56 n57 c58) ∧ qa7 ((bx g47).add 2) [(sv A56 n57 c58)] 0 w55 fun w59 => J50 () w59)) (J50 () w52))) fun z60 w61 => (∃ M62 : Nat → Prop, ldSM M62 w61 (bx g47) 0 fun A63 n64 c65 => ldSM M62 w61 (bx g47) 1 fun A66 n67 c68 => ldSM M62 w61 (bx g47) 2 fun A69 n70 c71 => ldIM M62 w61 (bx g47) 3 fun n72 => ldIM M62 w61 (bx g47) 4 fun n73 => Cl 67 #[(.pointer (some p0)), (iv 4)] w61.drew fun v74 w75 => (∃ (n76 : Int), v74 = (iv n76) ∧ qac M62 w61 w75 ∧ Cl 67 #[(.pointer (some p0)), (iv 40)] w75 fun v77 w78 => (∃ (n79 : Int), v77 = (iv n79) ∧ qac M62 w61 w78 ∧ Cl 118 #[(.agg (vB A63 n64 c65 A66 n67 c68 A69 n70 c71 n72 n73)), (iv n76), (iv n79)] w78 fun v80 w81 => (∃ (A82 : OA) (n83 c84 : Nat), True ∧ ∃ (A85 : OA) (n86 c87 : Nat), True ∧ ∃ (A88 : OA) (n89 c90 : Nat), True ∧ ∃ (n91 : Int), True ∧ ∃ (n92 : Int), True ∧ v80 = (.agg (vB A82 n83 c84 A85 n86 c87 A88 n89 c90 n91 n92)) ∧ qac M62 w61 w81 ∧ qa7 (bx g21) [(sv A82 n83 c84), (sv A85 n86 c87), (sv A88 n89 c90), (iv n91), (iv n92)] 0 w81 fun w93 => ldB w93 (bx g21) fun A94 n95 c96 A97 n98 c99 A100 n101 c102 n103 n104 => K (.agg (vB A94 n95 c96 A97 n98 c99 A100 n101 c102 n103 n104)) w93)))))))))

def qcE.ann : Ann := (.seq .l (.seq .l (.cut [] (.seq .l (.two .l .l)) (.seq .l .l))))

theorem qcE.con {s0 : D.Cur} {g1_ c0_0 : Nat} {A0_0 : OA} {r : D.Block × D.Cur} {w : World} (hp : M.qg5 s0) (hr : r = M.qcE s0) (O1 : Blk w g1_ 129 #[(sv A0_0 s0.b.length c0_0), (iv s0.i), (iv s0.h)]) (R0_0 : Row el5 w A0_0 s0.b) (hc0_0 : s0.b.length ≤ c0_0) (D0_0 : s0.b ≠ [] → ∀ g, InB A0_0 g → ¬ (fun k_ => k_ = g1_) g) :
    Cl 58 #[(.pointer (some (bx g1_)))] w (fun v_ w_ => ∃ (A0_ : OA) (c0_ : Nat) (A1_ : OA) (c1_ : Nat) (F1_ : Nat → Prop) (A2_ : OA) (c2_ : Nat), v_ = (.agg (bC A0_ c0_ A1_ c1_ A2_ c2_ r.1)) ∧ Own el84 w_ w.heap.size A0_ c0_ r.1.Code ∧ OwnW 52 el91 el3 w_ w.heap.size F1_ A1_ c1_ r.1.Warps ∧ Own el3 w_ w.heap.size A2_ c2_ r.1.Memory ∧ Dis (InW A1_ F1_) (InB A2_) ∧ Blk w_ g1_ 129 #[(sv A0_0 r.2.b.length c0_0), (iv r.2.i), (iv r.2.h)] ∧ r.2.b = s0.b ∧ Chg (fun k_ => k_ = g1_) w w_) := by
 have H := wp.qcE.math s0 hp
 have hB := Chg.refl (fun k_ => k_ = g1_) w
 refine begK mixed Tryz.f58 ann (vc (bx g1_)) ?_
 unfold vc
 unfold wp.qcE at H
 refine qax (fun g3_ w21 L3 P3 e22 => ?_)
 have N1_3 := O1.ne L3
 have O1 := O1.ext e22
 have L3 := Nat.le_trans hB.size L3
 have hB := hB.then e22
 obtain ⟨hp25, H⟩ := H
 obtain ⟨r23, hr24, H⟩ := qad H
 refine (qa9.con hp25 hr24 O1 (R0_0.chgS hB D0_0) hc0_0 (fun hx_ => (fun g h_ hS_ => D0_0 hx_ g h_ hS_))).mono ?_
 rintro _ w26 ⟨A28, c29, rfl, P4, Q1, hq30, e27⟩
 simp only [bC, wC, hq30] at Q1
 have N4_1 := P4.qa8 O1.lt
 have O4 := P4.mono hB.size
 have hB := hB.chg e27 (fun g h_ => Or.inr h_)
 have O1 := Q1
 refine ⟨A28, r23.1.length, c29, rfl, ?_⟩
 obtain ⟨hp33, H⟩ := H
 obtain ⟨r31, hr32, H⟩ := qad H
 refine (qa0.con hp33 hr32 O1 (R0_0.chgS hB D0_0) hc0_0 (fun hx_ => (fun g h_ hS_ => D0_0 hx_ g h_ hS_))).mono ?_
 rintro _ w34 ⟨rfl, Q1, hq36, e35⟩
 simp only [bC, wC, hq36] at Q1
 have O4 := O4.chgS e35 (qcg N4_1)
 have hB := hB.chg e35 (fun g h_ => Or.inr h_)
 have O1 := Q1
 refine ⟨r31.1, rfl, ?_⟩
 obtain ⟨hp39, H⟩ := H
 obtain ⟨r37, hr38, H⟩ := qad H
 refine (qbt.con hp39 hr38 O4.row O4.le).mono ?_
 rintro _ w40 ⟨A42, c43, A44, c45, F48, A46, c47, rfl, P5, P6, P7, N6_7, e41⟩
 have N5_1 := P5.qa8 O1.lt
 have N6_1 := P6.qeT O1 (Nat.le_refl _)
 have N7_1 := P7.qa8 O1.lt
 have O1 := O1.ext e41
 have O3 := ((P3.chgS e27 ((N1_3).symm)).chgS e35 ((N1_3).symm)).ext e41
 have O5 := P5.mono hB.size
 have O6 := P6.mono hB.size
 have O7 := P7.mono hB.size
 have hB := hB.then e41
 refine ⟨(.agg (bC A42 c43 A44 c45 A46 c47 r37.1)), A42, r37.1.Code.length, c43, trivial, A44, r37.1.Warps.length, c45, trivial, A46, r37.1.Memory.length, c47, trivial, r37.1.Waiting, trivial, r37.1.Phase, trivial, rfl, (.bool r37.2), r37.2, rfl, rfl, ?_⟩
 refine qax (fun g8_ w49 L8 P8 e50 => ?_)
 have N1_8 := O1.ne L8
 have N3_8 := O3.ne L8
 have N5_8 := O5.qag L8
 have N6_8 := O6.qcv L8
 have N7_8 := O7.qag L8
 have O1 := O1.ext e50
 have O8 := P8
 have L8 := Nat.le_trans hB.size L8
 refine stB O8 0 (bC A42 c43 A44 c45 A46 c47 r37.1) (fun w51 P8 e52 => ?_)
 have O1_ := O1.chg e52 N1_8
 have O3 := (O3.ext e50).chg e52 N3_8
 have O5 := (O5.ext e50).chg e52 N5_8
 have O6 := (O6.ext e50).chg e52 N6_8
 have O7 := (O7.ext e50).chg e52 N7_8
 have O1 := O1_
 have hB := (hB.then e50).chgb e52 (Or.inl L8)
 have O8 := P8
 obtain ⟨K137, hKK137, H⟩ := qcR H
 refine ⟨fun z_ w_ => ∃ (i76 i77 : Int) (xs78 : List Int) (i81 i82 : Int) (A79 : OA) (c80 : Nat), z_ = (()) ∧ K137 (i76, i77, xs78, i81, i82, ()) ∧ Chg (fun k_ => k_ = g1_) w w_ ∧ Blk w_ g1_ 129 #[(sv A0_0 s0.b.length c0_0), (iv i76), (iv i77)] ∧ Blk w_ g8_ 33 #[(sv A42 r37.1.Code.length c43), (sv A44 r37.1.Warps.length c45), (sv A79 xs78.length c80), (iv i81), (iv i82)] ∧ Own el3 w_ w.heap.size A79 c80 xs78 ∧ Blk w_ g3_ 33 zC ∧ Own el84 w_ w.heap.size A42 c43 r37.1.Code ∧ OwnW 52 el91 el3 w_ w.heap.size F48 A44 c45 r37.1.Warps ∧ Dis (InW A44 F48) (InB A79), ?_, ?_⟩
 ·obtain ⟨hp88, H⟩ := H
  obtain ⟨r86, hr87, H⟩ := qad H
  refine (qcN.con hp88 hr87 O1 (R0_0.chgS hB D0_0) hc0_0 (fun hx_ => (fun g h_ hS_ => D0_0 hx_ g h_ hS_))).mono ?_
  rintro _ w89 ⟨rfl, Q1, hq91, e90⟩
  simp only [bC, wC, hq91] at Q1
  have O3 := O3.chgS e90 ((N1_3).symm)
  have O5 := O5.chgS e90 (qcg N5_1)
  have O6 := O6.kept e90 (qjX N6_1)
  have O7 := O7.chgS e90 (qcg N7_1)
  have O8 := O8.chgS e90 ((N1_8).symm)
  have hB := hB.chg e90 (fun g h_ => Or.inr h_)
  have O1 := Q1
  refine ⟨r86.1, rfl, ?_⟩
  refine brc H (fun h H => ?_) fun h H => ?_
  ·obtain ⟨hp94, H⟩ := H
   obtain ⟨r92, hr93, H⟩ := qad H
   refine (qbs.con hp94 hr93 O1 (R0_0.chgS hB D0_0) hc0_0 (fun hx_ => (fun g h_ hS_ => D0_0 hx_ g h_ hS_))).mono ?_
   rintro _ w95 ⟨A97, c98, rfl, P13, Q1, hq99, e96⟩
   simp only [bC, wC, hq99] at Q1
   have N6_13 := O6.qf0 P13 (Nat.le_refl _)
   have N13_8 := P13.qa8 O8.lt
   have O8 := O8.chgS e96 ((N1_8).symm)
   have O13 := P13.mono hB.size
   refine ⟨A97, r92.1.length, c98, rfl, ?_⟩
   refine qbI O8 (o := 2) (cs' := #[(sv A42 r37.1.Code.length c43), (sv A44 r37.1.Warps.length c45), (sv A97 r92.1.length c98), (iv r37.1.Waiting), (iv r37.1.Phase)]) rfl rfl (Nat.le_of_ble_eq_true rfl) rfl (fun w100 O8 e101 => ?_)
   have O1 := Q1.chg e101 N1_8
   have O3 := (O3.chgS e96 ((N1_3).symm)).chg e101 N3_8
   have O5 := (O5.chgS e96 (qcg N5_1)).chg e101 N5_8
   have O6 := (O6.kept e96 (qjX N6_1)).chg e101 N6_8
   have O13 := O13.chg e101 N13_8
   have hB := (hB.chg e96 (fun g h_ => Or.inr h_)).chgb e101 (Or.inl L8)
   exact ⟨_, _, _, _, _, A97, c98, rfl, H, hB, O1, O8, O13, O3, O5, O6, N6_13⟩
  exact ⟨_, _, _, _, _, A46, c47, rfl, H, hB, O1, O8, O7, O3, O5, O6, N6_7⟩
 rintro _ w84 ⟨i76, i77, xs78, i81, i82, A79, c80, rfl, H, hB, O1, O8, O12, O3, O5, O6, N6_12⟩
 have H := hKK137 _ H
 try dsimp only at H ⊢
 refine ⟨((fun k_ => k_ = g1_)), _, _, _, ⟨(qh3 ((N1_8).symm) (by first | rfl | (simp only [qe6]))), (O8.a 0)⟩, _, _, _, ⟨(qh3 ((N1_8).symm) (by first | rfl | (simp only [qe6]))), (O8.a 1)⟩, _, _, _, ⟨(qh3 ((N1_8).symm) (by first | rfl | (simp only [qe6]))), (O8.a 2)⟩, _, ⟨(qh3 ((N1_8).symm) (by first | rfl | (simp only [qe6]))), (O8.a 3)⟩, _, ⟨(qh3 ((N1_8).symm) (by first | rfl | (simp only [qe6]))), (O8.a 4)⟩, ?_⟩
 have O1 := O1.ext (Ext.drew _)
 have O3 := O3.ext (Ext.drew _)
 have O5 := O5.ext (Ext.drew _)
 have O6 := O6.ext (Ext.drew _)
 have O12 := O12.ext (Ext.drew _)
 have hB := hB.then (Ext.drew _)
 have hS103 := (Chg.refl ((fun k_ => k_ = g1_)) w84).then (Ext.drew _)
 obtain ⟨hp112, H⟩ := H
 obtain ⟨r110, hr111, H⟩ := qad H
 refine (qa0.con hp112 hr111 O1 (R0_0.chgS hB D0_0) hc0_0 (fun hx_ => (fun g h_ hS_ => D0_0 hx_ g h_ hS_))).mono ?_
 rintro _ w113 ⟨rfl, Q1, hq115, e114⟩
 simp only [bC, wC, hq115] at Q1
 have O12 := O12.chgS e114 (qcg (O12.qa6 O1 (by decide)))
 have hS103 := hS103.chg e114 (fun g => (fun h_ => (Or.inr h_)))
 have hB := hB.chg e114 (fun g h_ => Or.inr h_)
 have O1 := Q1
 refine ⟨r110.1, rfl, qa2 hS103, ?_⟩
 obtain ⟨hp118, H⟩ := H
 obtain ⟨r116, hr117, H⟩ := qad H
 refine (qa0.con hp118 hr117 O1 (R0_0.chgS hB D0_0) hc0_0 (fun hx_ => (fun g h_ hS_ => D0_0 hx_ g h_ hS_))).mono ?_
 rintro _ w119 ⟨rfl, Q1, hq121, e120⟩
 simp only [bC, wC, hq121] at Q1
 have O5 := (O5.chgS e114 (qcg N5_1)).chgS e120 (qcg N5_1)
 have O6 := (O6.kept e114 (qjX N6_1)).kept e120 (qjX N6_1)
 have O12 := O12.chgS e120 (qcg (O12.qa6 O1 (by decide)))
 have hS103 := hS103.chg e120 (fun g => (fun h_ => (Or.inr h_)))
 have hB := hB.chg e120 (fun g h_ => Or.inr h_)
 refine ⟨r116.1, rfl, qa2 hS103, ?_⟩
 obtain ⟨hp124, H⟩ := H
 obtain ⟨r122, hr123, H⟩ := qad H
 refine (qdg.con hp124 hr123 O5 hB.size O6 O12 N6_12).mono ?_
 rintro _ w125 ⟨A127, c128, A129, c130, F133, A131, c132, rfl, O14, O15, O16, N15_16, e126⟩
 have O3 := ((O3.chgS e114 ((N1_3).symm)).chgS e120 ((N1_3).symm)).ext e126
 have hS103 := hS103.then e126
 refine ⟨A127, r122.Code.length, c128, trivial, A129, r122.Warps.length, c130, trivial, A131, r122.Memory.length, c132, trivial, r122.Waiting, trivial, r122.Phase, trivial, rfl, qa2 hS103, ?_⟩
 refine stB O3 0 (bC A127 c128 A129 c130 A131 c132 r122) (fun w134 P3 e135 => ?_)
 have O1 := (Q1.ext e126).chg e135 N1_3
 have O14 := O14.chg e135 (O14.qa6 O3 (by decide))
 have O15 := O15.chg e135 (O15.qda O3 (by decide) (by decide) (by decide))
 have O16 := O16.chg e135 (O16.qa6 O3 (by decide))
 have hB := (hB.then e126).chgb e135 (Or.inl L3)
 have O3 := P3
 refine ⟨_, _, _, (O3.a 0), _, _, _, (O3.a 1), _, _, _, (O3.a 2), _, (O3.a 3), _, (O3.a 4), ?_⟩
 cases hr.trans H.symm
 exact ⟨A127, c128, A129, c130, F133, A131, c132, rfl, O14, O15, O16, N15_16, O1, rfl, hB⟩
def qcu.vc (A0 : OA) (n0 c0 : Nat) (w : World) (K : VK) : Prop :=
  newK w (.cells zC 33) fun g21 w22 => Cl 59 #[(sv A0 n0 c0)] w22 fun v23 w24 => (∃ (p25 : Addr), v23 = (.pointer (some p25)) ∧ Cl 58 #[(.pointer (some p25))] w24 fun v26 w27 => (∃ (A28 : OA) (n29 c30 : Nat), True ∧ ∃ (A31 : OA) (n32 c33 : Nat), True ∧ ∃ (A34 : OA) (n35 c36 : Nat), True ∧ ∃ (n37 : Int), True ∧ ∃ (n38 : Int), True ∧ v26 = (.agg (vB A28 n29 c30 A31 n32 c33 A34 n35 c36 n37 n38)) ∧ qa7 (bx g21) [(sv A28 n29 c30), (sv A31 n32 c33), (sv A34 n35 c36), (iv n37), (iv n38)] 0 w27 fun w39 => ldB w39 (bx g21) fun A40 n41 c42 A43 n44 c45 A46 n47 c48 n49 n50 => K (.agg (vB A40 n41 c42 A43 n44 c45 A46 n47 c48 n49 n50)) w39))

def qcu.ann : Ann := (.seq .l (.seq .l .l))

theorem qcu.con {xs0 : List Int} {A0 : OA} {c0 : Nat} {r : D.Block} {w : World} (hp : M.qfu xs0) (hr : r = M.qcu xs0) (R0 : Row el5 w A0 xs0) (hc0 : xs0.length ≤ c0) :
    Cl 19 #[(sv A0 xs0.length c0)] w (fun v_ w_ => ∃ (A0_ : OA) (c0_ : Nat) (A1_ : OA) (c1_ : Nat) (F1_ : Nat → Prop) (A2_ : OA) (c2_ : Nat), v_ = (.agg (bC A0_ c0_ A1_ c1_ A2_ c2_ r)) ∧ Own el84 w_ w.heap.size A0_ c0_ r.Code ∧ OwnW 52 el91 el3 w_ w.heap.size F1_ A1_ c1_ r.Warps ∧ Own el3 w_ w.heap.size A2_ c2_ r.Memory ∧ Dis (InW A1_ F1_) (InB A2_) ∧ Ext w w_) := by
 have H := wp.qcu.math xs0 hp
 have hB := Ext.refl w
 refine begK mixed Tryz.f19 ann (vc A0 xs0.length c0) ?_
 unfold vc
 unfold wp.qcu at H
 refine qax (fun g2_ w21 L2 P2 e22 => ?_)
 have O2 := P2
 have L2 := Nat.le_trans hB.size L2
 have hB := qa5 hB e22
 obtain ⟨hp25, H⟩ := H
 obtain ⟨r23, hr24, H⟩ := qad H
 refine (qaK.con hp25 hr24 (R0.ext hB) hc0).mono ?_
 rintro _ w26 ⟨g3_, rfl, O3, hq28, L3, e27⟩
 simp only [bC, wC, hq28] at O3
 have N2_3 := O2.ne L3
 have L3 := Nat.le_trans hB.size L3
 have O2 := O2.ext e27
 have hB := qa5 hB e27
 refine ⟨(bx g3_), rfl, ?_⟩
 obtain ⟨hp31, H⟩ := H
 obtain ⟨r29, hr30, H⟩ := qad H
 refine (qcE.con hp31 hr30 O3 (R0.ext hB) hc0 (fun hx_ => (fun g h_ hS_ => Nat.not_le.2 (R0.old hx_ g h_) (qfS L3 _ hS_)))).mono ?_
 rintro _ w32 ⟨A34, c35, A36, c37, F40, A38, c39, rfl, P4, P5, P6, N5_6, Q3, hq41, e33⟩
 simp only [bC, wC, hq41] at Q3
 have N4_2 := P4.qa8 O2.lt
 have N5_2 := P5.qeT O2 (Nat.le_refl _)
 have N6_2 := P6.qa8 O2.lt
 have O2 := O2.chgS e33 (N2_3)
 have O4 := P4.mono hB.size
 have O5 := P5.mono hB.size
 have O6 := P6.mono hB.size
 have hB := Chg.ext hB e33 (qfS L3)
 refine ⟨A34, r29.1.Code.length, c35, trivial, A36, r29.1.Warps.length, c37, trivial, A38, r29.1.Memory.length, c39, trivial, r29.1.Waiting, trivial, r29.1.Phase, trivial, rfl, ?_⟩
 refine qbI O2 (o := 0) (cs' := (bC A34 c35 A36 c37 A38 c39 r29.1)) rfl rfl (Nat.le_of_ble_eq_true rfl) rfl (fun w42 O2 e43 => ?_)
 have O4 := O4.chg e43 N4_2
 have O5 := O5.chg e43 N5_2
 have O6 := O6.chg e43 N6_2
 have hB := echg hB e43 L2
 refine ⟨_, _, _, (O2.a 0), _, _, _, (O2.a 1), _, _, _, (O2.a 2), _, (O2.a 3), _, (O2.a 4), ?_⟩
 cases hr.trans H.symm
 exact ⟨A34, c35, A36, c37, F40, A38, c39, rfl, O4, O5, O6, N5_6, hB⟩
def qcI.vc (p0 : Addr) (w : World) (K : VK) : Prop :=
  Run Tryz.prog (Instr.buildSlice 24 0 #[]) w fun v21 w22 => ∃ (A23 : OA) (n24 c25 : Nat), v21 = .slice A23 n24 c25 ∧ qdA (σ := (OA × Nat × Nat) × Int × Unit) (fun z26 w27 next28 => Cl 67 #[(.pointer (some p0)), (iv 30)] w27 fun v29 w30 => (∃ (n31 : Int), v29 = (iv n31) ∧ qa1 (decide (z26.2.1 < n31)) (Cl 67 #[(.pointer (some p0)), (iv 4)] w30 fun v32 w33 => (∃ (n34 : Int), v32 = (iv n34) ∧ Run Tryz.prog (Instr.buildSlice 24 1 #[(0, (iv n34))]) w33 fun v35 w36 => ∃ (A37 : OA) (n38 c39 : Nat), v35 = .slice A37 n38 c39 ∧ Run Tryz.prog (Builtin.append_ #[24, 24] 24 #[(sv z26.1.1 z26.1.2.1 z26.1.2.2), (sv A37 n38 c39)]) w36 fun v40 w41 => ∃ (A42 : OA) (n43 c44 : Nat), v40 = .slice A42 n43 c44 ∧ next28 ((A42, n43, c44), (wrap .i64 (z26.2.1 + 1)), ()) w41)) (K (sv z26.1.1 z26.1.2.1 z26.1.2.2) w30))) ((A23, n24, c25), 0, ()) w22

def qcI.ann : Ann := (.seq .l (.seq .l (.seq (.seq .l (.one (.loop [(3, .sl), (4, .int .i64)] (.seq (.seq .l (.two .l .l)) (.seq (.one .l) .l))))) (.seq .l .l))))

theorem qcI.con {s0 : D.Cur} {g1_ c0_0 : Nat} {A0_0 : OA} {r : (List Int) × D.Cur} {w : World} (hp : M.qfV s0) (hr : r = M.qcI s0) (O1 : Blk w g1_ 129 #[(sv A0_0 s0.b.length c0_0), (iv s0.i), (iv s0.h)]) (R0_0 : Row el5 w A0_0 s0.b) (hc0_0 : s0.b.length ≤ c0_0) (D0_0 : s0.b ≠ [] → ∀ g, InB A0_0 g → ¬ (fun k_ => k_ = g1_) g) :
    Cl 80 #[(.pointer (some (bx g1_)))] w (fun v_ w_ => ∃ (A0_ : OA) (c0_ : Nat), v_ = (sv A0_ r.1.length c0_) ∧ Own el3 w_ w.heap.size A0_ c0_ r.1 ∧ Blk w_ g1_ 129 #[(sv A0_0 r.2.b.length c0_0), (iv r.2.i), (iv r.2.h)] ∧ r.2.b = s0.b ∧ Chg (fun k_ => k_ = g1_) w w_) := by
 have H := wp.qcI.math s0 hp
 have hB := Chg.refl (fun k_ => k_ = g1_) w
 refine begK mixed Tryz.f80 ann (vc (bx g1_)) ?_
 unfold vc
 unfold wp.qcI at H
 refine qap el3 ([] : List Int) (fun _ => by kernel_rfl) rfl (fun A21 w22 P3 e23 => ?_)
 have O1 := O1.ext e23
 have O3 := P3.mono hB.size
 have hB := hB.then e23
 obtain ⟨J60, ⟨m90, hJ89⟩, hS61⟩ := H
 refine ⟨fun m_ z_ w_ => ∃ (xs53 : List Int) (i56 i57 i58 : Int) (A54 : OA) (c55 : Nat), z_ = ((A54, xs53.length, c55), i56, ()) ∧ J60 m_ (xs53, i56, i57, i58, ()) ∧ Chg (fun k_ => k_ = g1_) w w_ ∧ Own el3 w_ w.heap.size A54 c55 xs53 ∧ Blk w_ g1_ 129 #[(sv A0_0 s0.b.length c0_0), (iv i57), (iv i58)], ⟨m90, ([] : List Int), 0, s0.i, s0.h, A21, 0, rfl, hJ89, hB, O3, O1⟩, ?_⟩
 rintro m59 _ w63 ⟨xs53, i56, i57, i58, A54, c55, rfl, hJ91, hB, O6, O1⟩
 have H := hS61 m59 _ hJ91
 clear hS61 hJ91
 try dsimp only at H ⊢
 obtain ⟨hp66, H⟩ := H
 obtain ⟨r64, hr65, H⟩ := qad H
 refine (qa0.con hp66 hr65 O1 (R0_0.chgS hB D0_0) hc0_0 (fun hx_ => (fun g h_ hS_ => D0_0 hx_ g h_ hS_))).mono ?_
 rintro _ w67 ⟨rfl, Q1, hq69, e68⟩
 simp only [bC, wC, hq69] at Q1
 have O6 := O6.chgS e68 (qcg (O6.qa6 O1 (by decide)))
 have hB := hB.chg e68 (fun g h_ => Or.inr h_)
 have O1 := Q1
 refine ⟨r64.1, rfl, ?_⟩
 refine brc H (fun h H => ?_) fun h H => ?_
 ·obtain ⟨hp72, H⟩ := H
  obtain ⟨r70, hr71, H⟩ := qad H
  refine (qa0.con hp72 hr71 O1 (R0_0.chgS hB D0_0) hc0_0 (fun hx_ => (fun g h_ hS_ => D0_0 hx_ g h_ hS_))).mono ?_
  rintro _ w73 ⟨rfl, Q1, hq75, e74⟩
  simp only [bC, wC, hq75] at Q1
  have O6 := O6.chgS e74 (qcg (O6.qa6 O1 (by decide)))
  have hB := hB.chg e74 (fun g h_ => Or.inr h_)
  refine ⟨r70.1, rfl, ?_⟩
  refine qap el3 ([r70.1] : List Int) (fun _ => by kernel_rfl) rfl (fun A76 w77 P7 e78 => ?_)
  have O1 := Q1.ext e78
  have O6 := O6.ext e78
  have O7 := P7.mono hB.size
  have hB := hB.then e78
  obtain ⟨hl83, H⟩ := H
  refine appO qdZ O6 O7.row hB.size hl83 (fun A79 c80 w81 P6 e82 => ?_)
  have O1 := O1.app e82 (O6.qa6 O1 (by decide))
  have hB := hB.app e82 (fun g h_ => Or.inl (O6.low g h_))
  have O6 := P6
  obtain ⟨m84, hm85, hJ86⟩ := H
  exact ⟨m84, hm85, _, _, _, _, A79, c80, rfl, hJ86, hB, O6, O1⟩
 cases hr.trans H.symm
 exact ⟨A54, c55, rfl, O6, O1, rfl, hB⟩
def qcb.vc (A0 : OA) (n0 c0 : Nat) (w : World) (K : VK) : Prop :=
  Cl 59 #[(sv A0 n0 c0)] w fun v21 w22 => (∃ (p23 : Addr), v21 = (.pointer (some p23)) ∧ Cl 80 #[(.pointer (some p23))] w22 fun v24 w25 => (∃ (A26 : OA) (n27 c28 : Nat), v24 = (sv A26 n27 c28) ∧ K (sv A26 n27 c28) w25))

def qcb.ann : Ann := (.seq .l (.seq .l .l))

theorem qcb.con {xs0 r : List Int} {A0 : OA} {c0 : Nat} {w : World} (hp : M.qfx xs0) (hr : r = M.qcb xs0) (R0 : Row el5 w A0 xs0) (hc0 : xs0.length ≤ c0) :
    Cl 34 #[(sv A0 xs0.length c0)] w (fun v_ w_ => ∃ (A0_ : OA) (c0_ : Nat), v_ = (sv A0_ r.length c0_) ∧ Own el3 w_ w.heap.size A0_ c0_ r ∧ Ext w w_) := by
 have H := wp.qcb.math xs0 hp
 have hB := Ext.refl w
 refine begK mixed Tryz.f34 ann (vc A0 xs0.length c0) ?_
 unfold vc
 unfold wp.qcb at H
 obtain ⟨hp23, H⟩ := H
 obtain ⟨r21, hr22, H⟩ := qad H
 refine (qaK.con hp23 hr22 (R0.ext hB) hc0).mono ?_
 rintro _ w24 ⟨g2_, rfl, O2, hq26, L2, e25⟩
 simp only [bC, wC, hq26] at O2
 have L2 := Nat.le_trans hB.size L2
 have hB := qa5 hB e25
 refine ⟨(bx g2_), rfl, ?_⟩
 obtain ⟨hp29, H⟩ := H
 obtain ⟨r27, hr28, H⟩ := qad H
 refine (qcI.con hp29 hr28 O2 (R0.ext hB) hc0 (fun hx_ => (fun g h_ hS_ => Nat.not_le.2 (R0.old hx_ g h_) (qfS L2 _ hS_)))).mono ?_
 rintro _ w30 ⟨A32, c33, rfl, P3, Q2, hq34, e31⟩
 simp only [bC, wC, hq34] at Q2
 have O3 := P3.mono hB.size
 have hB := Chg.ext hB e31 (qfS L2)
 refine ⟨A32, r27.1.length, c33, rfl, ?_⟩
 cases hr.trans H.symm
 exact ⟨A32, c33, rfl, O3, hB⟩
def qdG.vc (A0 : OA) (n0 c0 : Nat) (w : World) (K : VK) : Prop :=
  Cl 18 #[(sv A0 n0 c0)] w fun v21 w22 => (∃ (b23 : Bool), v21 = (.bool b23) ∧ qa1 b23 (K (.bool true) w22) (Cl 19 #[(sv A0 n0 c0)] w22 fun v24 w25 => (∃ (A26 : OA) (n27 c28 : Nat), True ∧ ∃ (A29 : OA) (n30 c31 : Nat), True ∧ ∃ (A32 : OA) (n33 c34 : Nat), True ∧ ∃ (n35 : Int), True ∧ ∃ (n36 : Int), True ∧ v24 = (.agg (vB A26 n27 c28 A29 n30 c31 A32 n33 c34 n35 n36)) ∧ newK w25 (.cells zC 33) fun g37 w38 => qa7 (bx g37) [(sv A26 n27 c28), (sv A29 n30 c31), (sv A32 n33 c34), (iv n35), (iv n36)] 0 w38 fun w39 => Cl 34 #[(sv A0 n0 c0)] w39 fun v40 w41 => (∃ (A42 : OA) (n43 c44 : Nat), v40 = (sv A42 n43 c44) ∧ Cl 27 #[(sv A0 n0 c0)] w41 fun v45 w46 => (∃ (A47 : OA) (n48 c49 : Nat), v45 = (sv A47 n48 c49) ∧ (idx 0 n48 A47 fun a50 => ldI w46 ((a50.add (((0 : Int).toNat) * 1)).add 0) fun n51 => (((wrap .i64 (((n43 : Nat) : Int) + 1)) : Int) ≠ 0 ∧ (∃ M52 : Nat → Prop, ldSM M52 w46 (bx g37) 0 fun A53 n54 c55 => ldSM M52 w46 (bx g37) 1 fun A56 n57 c58 => ldSM M52 w46 (bx g37) 2 fun A59 n60 c61 => ldIM M52 w46 (bx g37) 3 fun n62 => ldIM M52 w46 (bx g37) 4 fun n63 => (idx 1 n48 A47 fun a64 => ldIM M52 w46 (a64.add (((1 : Int).toNat) * 1)) 0 fun n65 => Cl 35 #[(.agg (vB A53 n54 c55 A56 n57 c58 A59 n60 c61 n62 n63)), (iv n65)] w46.drew fun v66 w67 => (∃ (n68 : Int), v66 = (iv n68) ∧ qac M52 w46 w67 ∧ ldB w67 (bx g37) fun A69 n70 c71 A72 n73 c74 A75 n76 c77 n78 n79 => Cl 36 #[(.agg (vB A69 n70 c71 A72 n73 c74 A75 n76 c77 n78 n79)), (sv A42 n43 c44)] w67 fun v80 w81 => (∃ u82 : Value, (∃ (A83 : OA) (n84 c85 : Nat), True ∧ ∃ (A86 : OA) (n87 c88 : Nat), True ∧ ∃ (A89 : OA) (n90 c91 : Nat), True ∧ ∃ (n92 : Int), True ∧ ∃ (n93 : Int), True ∧ u82 = (.agg (vB A83 n84 c85 A86 n87 c88 A89 n90 c91 n92 n93)) ∧ ∃ u94 : Value, (∃ (n95 : Int), u94 = (iv n95) ∧ v80 = (.tuple #[(.agg (vB A83 n84 c85 A86 n87 c88 A89 n90 c91 n92 n93)), (iv n95)]) ∧ newK w81 (.cells zC 33) fun g96 w97 => qa7 (bx g96) [(sv A83 n84 c85), (sv A86 n87 c88), (sv A89 n90 c91), (iv n92), (iv n93)] 0 w97 fun w98 => qfL (σ := Addr × Int × Unit) (fun J99 => (∃ M100 : Nat → Prop, ldSM M100 w98 (bx g37) 0 fun A101 n102 c103 => ldSM M100 w98 (bx g37) 1 fun A104 n105 c106 => ldSM M100 w98 (bx g37) 2 fun A107 n108 c109 => ldIM M100 w98 (bx g37) 3 fun n110 => ldIM M100 w98 (bx g37) 4 fun n111 => ((0 : Int) ≤ (Int.tmod n51 (wrap .i64 (((n43 : Nat) : Int) + 1))) ∧ (Int.tmod n51 (wrap .i64 (((n43 : Nat) : Int) + 1))) ≤ ((c44 : Nat) : Int) ∧ ((Cl 36 #[(.agg (vB A101 n102 c103 A104 n105 c106 A107 n108 c109 n110 n111)), (sv A42 ((Int.tmod n51 (wrap .i64 (((n43 : Nat) : Int) + 1))).toNat) c44)] w98.drew fun v112 w113 => (∃ u114 : Value, (∃ (A115 : OA) (n116 c117 : Nat), True ∧ ∃ (A118 : OA) (n119 c120 : Nat), True ∧ ∃ (A121 : OA) (n122 c123 : Nat), True ∧ ∃ (n124 : Int), True ∧ ∃ (n125 : Int), True ∧ u114 = (.agg (vB A115 n116 c117 A118 n119 c120 A121 n122 c123 n124 n125)) ∧ ∃ u126 : Value, (∃ (n127 : Int), u126 = (iv n127) ∧ v112 = (.tuple #[(.agg (vB A115 n116 c117 A118 n119 c120 A121 n122 c123 n124 n125)), (iv n127)]) ∧ qac M100 w98 w113 ∧ newK w113 (.cells zC 33) fun g128 w129 => qac M100 w98 w129 ∧ qa7 (bx g128) [(sv A115 n116 c117), (sv A118 n119 c120), (sv A121 n122 c123), (iv n124), (iv n125)] 0 w129 fun w130 => qac M100 w98 w130 ∧ J99 ((bx g128), n127, ()) w130)))) ∧ (newK w98.drew (.cells zC 33) fun g131 w132 => qac M100 w98 w132 ∧ Cl 36 #[(.agg (vB A101 n102 c103 A104 n105 c106 A107 n108 c109 n110 n111)), (sv A42 ((Int.tmod n51 (wrap .i64 (((n43 : Nat) : Int) + 1))).toNat) c44)] w132 fun v133 w134 => (∃ u135 : Value, (∃ (A136 : OA) (n137 c138 : Nat), True ∧ ∃ (A139 : OA) (n140 c141 : Nat), True ∧ ∃ (A142 : OA) (n143 c144 : Nat), True ∧ ∃ (n145 : Int), True ∧ ∃ (n146 : Int), True ∧ u135 = (.agg (vB A136 n137 c138 A139 n140 c141 A142 n143 c144 n145 n146)) ∧ ∃ u147 : Value, (∃ (n148 : Int), u147 = (iv n148) ∧ v133 = (.tuple #[(.agg (vB A136 n137 c138 A139 n140 c141 A142 n143 c144 n145 n146)), (iv n148)]) ∧ qac M100 w98 w134 ∧ qa7 (bx g131) [(sv A136 n137 c138), (sv A139 n140 c141), (sv A142 n143 c144), (iv n145), (iv n146)] 0 w134 fun w149 => qac M100 w98 w149 ∧ J99 ((bx g131), n148, ()) w149)))) ∧ True)))) fun z150 w151 => qfL (σ := Addr × Int × Unit) (fun J152 => (∃ M153 : Nat → Prop, ldSM M153 w151 z150.1 0 fun A154 n155 c156 => ldSM M153 w151 z150.1 1 fun A157 n158 c159 => ldSM M153 w151 z150.1 2 fun A160 n161 c162 => ldIM M153 w151 z150.1 3 fun n163 => ldIM M153 w151 z150.1 4 fun n164 => ((0 : Int) ≤ (Int.tmod n51 (wrap .i64 (((n43 : Nat) : Int) + 1))) ∧ (Int.tmod n51 (wrap .i64 (((n43 : Nat) : Int) + 1))) ≤ ((n43 : Nat) : Int) ∧ ((Cl 36 #[(.agg (vB A154 n155 c156 A157 n158 c159 A160 n161 c162 n163 n164)), (sv (if c44 = ((Int.tmod n51 (wrap .i64 (((n43 : Nat) : Int) + 1))).toNat) then A42 else A42.map (·.add (((Int.tmod n51 (wrap .i64 (((n43 : Nat) : Int) + 1))).toNat) * szOf Tryz.prog 3))) (n43 - ((Int.tmod n51 (wrap .i64 (((n43 : Nat) : Int) + 1))).toNat)) (c44 - ((Int.tmod n51 (wrap .i64 (((n43 : Nat) : Int) + 1))).toNat)))] w151.drew fun v165 w166 => (∃ u167 : Value, (∃ (A168 : OA) (n169 c170 : Nat), True ∧ ∃ (A171 : OA) (n172 c173 : Nat), True ∧ ∃ (A174 : OA) (n175 c176 : Nat), True ∧ ∃ (n177 : Int), True ∧ ∃ (n178 : Int), True ∧ u167 = (.agg (vB A168 n169 c170 A171 n172 c173 A174 n175 c176 n177 n178)) ∧ ∃ u179 : Value, (∃ (n180 : Int), u179 = (iv n180) ∧ v165 = (.tuple #[(.agg (vB A168 n169 c170 A171 n172 c173 A174 n175 c176 n177 n178)), (iv n180)]) ∧ qac M153 w151 w166 ∧ newK w166 (.cells zC 33) fun g181 w182 => qac M153 w151 w182 ∧ qa7 (bx g181) [(sv A168 n169 c170), (sv A171 n172 c173), (sv A174 n175 c176), (iv n177), (iv n178)] 0 w182 fun w183 => qac M153 w151 w183 ∧ J152 ((bx g181), n180, ()) w183)))) ∧ (newK w151.drew (.cells zC 33) fun g184 w185 => qac M153 w151 w185 ∧ Cl 36 #[(.agg (vB A154 n155 c156 A157 n158 c159 A160 n161 c162 n163 n164)), (sv (if c44 = ((Int.tmod n51 (wrap .i64 (((n43 : Nat) : Int) + 1))).toNat) then A42 else A42.map (·.add (((Int.tmod n51 (wrap .i64 (((n43 : Nat) : Int) + 1))).toNat) * szOf Tryz.prog 3))) (n43 - ((Int.tmod n51 (wrap .i64 (((n43 : Nat) : Int) + 1))).toNat)) (c44 - ((Int.tmod n51 (wrap .i64 (((n43 : Nat) : Int) + 1))).toNat)))] w185 fun v186 w187 => (∃ u188 : Value, (∃ (A189 : OA) (n190 c191 : Nat), True ∧ ∃ (A192 : OA) (n193 c194 : Nat), True ∧ ∃ (A195 : OA) (n196 c197 : Nat), True ∧ ∃ (n198 : Int), True ∧ ∃ (n199 : Int), True ∧ u188 = (.agg (vB A189 n190 c191 A192 n193 c194 A195 n196 c197 n198 n199)) ∧ ∃ u200 : Value, (∃ (n201 : Int), u200 = (iv n201) ∧ v186 = (.tuple #[(.agg (vB A189 n190 c191 A192 n193 c194 A195 n196 c197 n198 n199)), (iv n201)]) ∧ qac M153 w151 w187 ∧ qa7 (bx g184) [(sv A189 n190 c191), (sv A192 n193 c194), (sv A195 n196 c197), (iv n198), (iv n199)] 0 w187 fun w202 => qac M153 w151 w202 ∧ J152 ((bx g184), n201, ()) w202)))) ∧ True)))) fun z203 w204 => qfL (σ := Unit) (fun J205 => qa1 (decide (n68 ≥ 0)) (ldB w204 (bx g37) fun A206 n207 c208 A209 n210 c211 A212 n213 c214 n215 n216 => Cl 21 #[(.agg (vB A206 n207 c208 A209 n210 c211 A212 n213 c214 n215 n216)), (iv n68)] w204 fun v217 w218 => (∃ (b219 : Bool), v217 = (.bool b219) ∧ qa1 (!b219) (K (.bool false) w218) (qa1 (decide (n68 < 0)) (ldB w218 (bx g37) fun A220 n221 c222 A223 n224 c225 A226 n227 c228 n229 n230 => Cl 26 #[(.agg (vB A220 n221 c222 A223 n224 c225 A226 n227 c228 n229 n230))] w218 fun v231 w232 => (∃ (b233 : Bool), v231 = (.bool b233) ∧ qa1 (!b233) (ldB w232 (bx g37) fun A234 n235 c236 A237 n238 c239 A240 n241 c242 n243 n244 => Cl 20 #[(.agg (vB A234 n235 c236 A237 n238 c239 A240 n241 c242 n243 n244))] w232 fun v245 w246 => (∃ (b247 : Bool), v245 = (.bool b247) ∧ qa1 (!b247) (K (.bool false) w246) (J205 () w246))) (J205 () w232))) (J205 () w218)))) (qa1 (decide (n68 < 0)) (ldB w204 (bx g37) fun A248 n249 c250 A251 n252 c253 A254 n255 c256 n257 n258 => Cl 26 #[(.agg (vB A248 n249 c250 A251 n252 c253 A254 n255 c256 n257 n258))] w204 fun v259 w260 => (∃ (b261 : Bool), v259 = (.bool b261) ∧ qa1 (!b261) (ldB w260 (bx g37) fun A262 n263 c264 A265 n266 c267 A268 n269 c270 n271 n272 => Cl 20 #[(.agg (vB A262 n263 c264 A265 n266 c267 A268 n269 c270 n271 n272))] w260 fun v273 w274 => (∃ (b275 : Bool), v273 = (.bool b275) ∧ qa1 (!b275) (K (.bool false) w274) (J205 () w274))) (J205 () w260))) (J205 () w204))) fun z276 w277 => qa1 (decide (n95 ≥ 0)) (qa1 (decide (z150.2.1 ≥ 0)) (qa1 (decide (z203.2.1 ≥ 0)) (qa1 ((wrap .i64 (z150.2.1 + z203.2.1)) == n95) (ldB w277 (bx g96) fun A278 n279 c280 A281 n282 c283 A284 n285 c286 n287 n288 => ldS w277 (z203.1.add 0) fun A289 n290 c291 => ldS w277 (z203.1.add 1) fun A292 n293 c294 => ldS w277 (z203.1.add 2) fun A295 n296 c297 => ldI w277 (z203.1.add 3) fun n298 => ldI w277 (z203.1.add 4) fun n299 => Cl 30 #[(.agg (vB A278 n279 c280 A281 n282 c283 A284 n285 c286 n287 n288)), (.agg (vB A289 n290 c291 A292 n293 c294 A295 n296 c297 n298 n299))] w277 fun v300 w301 => (∃ (b302 : Bool), v300 = (.bool b302) ∧ K (.bool b302) w301)) (K (.bool false) w277)) (K (.bool false) w277)) (K (.bool false) w277)) (K (.bool false) w277))))))))))))))

def qdG.ann : Ann := (.seq .l (.seq (.seq .l (.two (.seq .l .l) .l)) (.seq .l (.seq .l (.seq .l (.seq .l (.seq .l (.seq .l (.cut [(10, .ptr), (11, .int .i64)] .l (.cut [(12, .ptr), (13, .int .i64)] .l (.cut [] (.seq .l (.two (.seq .l .l) .l)) (.seq .l .l))))))))))))

theorem qdG.con {xs0 : List Int} {A0 : OA} {c0 : Nat} {r : Bool} {w : World} (hp : M.qgj xs0) (hr : r = M.qdG xs0) (R0 : Row el5 w A0 xs0) (hc0 : xs0.length ≤ c0) :
    Cl 6 #[(sv A0 xs0.length c0)] w (fun v_ w_ => v_ = (.bool r) ∧ Ext w w_) := by
 have H := wp.qdG.math xs0 hp
 have hB := Ext.refl w
 refine begK mixed Tryz.f6 ann (vc A0 xs0.length c0) ?_
 unfold vc
 unfold wp.qdG at H
 obtain ⟨r21, hr22, H⟩ := qad H
 refine (qf8.con hr22 (R0.ext hB) hc0).mono ?_
 rintro _ w24 ⟨rfl, e25⟩
 have hB := qa5 hB e25
 refine ⟨r21, rfl, ?_⟩
 refine brc H (fun h H => ?_) fun h H => ?_
 ·cases hr.trans H.symm
  exact ⟨rfl, hB⟩
 obtain ⟨hp28, H⟩ := H
 obtain ⟨r26, hr27, H⟩ := qad H
 refine (qcu.con hp28 hr27 (R0.ext hB) hc0).mono ?_
 rintro _ w29 ⟨A31, c32, A33, c34, F37, A35, c36, rfl, P2, P3, P4, N3_4, e30⟩
 have O2 := P2.mono hB.size
 have O3 := P3.mono hB.size
 have O4 := P4.mono hB.size
 have hB := qa5 hB e30
 refine ⟨A31, r26.Code.length, c32, trivial, A33, r26.Warps.length, c34, trivial, A35, r26.Memory.length, c36, trivial, r26.Waiting, trivial, r26.Phase, trivial, rfl, ?_⟩
 refine qax (fun g5_ w38 L5 P5 e39 => ?_)
 have N2_5 := O2.qag L5
 have N3_5 := O3.qcv L5
 have N4_5 := O4.qag L5
 have O2 := O2.ext e39
 have O3 := O3.ext e39
 have O4 := O4.ext e39
 have O5 := P5
 have L5 := Nat.le_trans hB.size L5
 have hB := qa5 hB e39
 refine qbI O5 (o := 0) (cs' := (bC A31 c32 A33 c34 A35 c36 r26)) rfl rfl (Nat.le_of_ble_eq_true rfl) rfl (fun w40 O5 e41 => ?_)
 have O2_ := O2.chg e41 N2_5
 have O3_ := O3.chg e41 N3_5
 have O4_ := O4.chg e41 N4_5
 have hB := echg hB e41 L5
 obtain ⟨hp44, H⟩ := H
 obtain ⟨r42, hr43, H⟩ := qad H
 refine (qcb.con hp44 hr43 (R0.ext hB) hc0).mono ?_
 rintro _ w45 ⟨A47, c48, rfl, P6, e46⟩
 have O6 := P6.mono hB.size
 have hB := qa5 hB e46
 refine ⟨A47, r42.length, c48, rfl, ?_⟩
 obtain ⟨hp51, H⟩ := H
 obtain ⟨r49, hr50, H⟩ := qad H
 refine (qb7.con hp51 hr50 (R0.ext hB) hc0).mono ?_
 rintro _ w52 ⟨A54, c55, rfl, P7, e53⟩
 have O5 := (O5.ext e46).ext e53
 have O7 := P7.mono hB.size
 refine ⟨A54, r49.length, c55, rfl, ?_⟩
 obtain ⟨⟨h0_59, h1_60⟩, H⟩ := H
 obtain ⟨a57, ha58, hat56⟩ := Row.at O7.row h0_59 h1_60
 refine ⟨h0_59, h1_60, a57, ha58, _, (hat56 0 _ rfl), ?_⟩
 obtain ⟨hc61, H⟩ := H
 refine ⟨hc61, (fun _ => False), _, _, _, noM (O5.a 0), _, _, _, noM (O5.a 1), _, _, _, noM (O5.a 2), _, noM (O5.a 3), _, noM (O5.a 4), ?_⟩
 obtain ⟨⟨h0_66, h1_67⟩, H⟩ := H
 obtain ⟨a64, ha65, hat63⟩ := Row.at O7.row h0_66 h1_67
 refine ⟨h0_66, h1_67, a64, ha65, _, ⟨(fun h_ => h_), (hat63 0 _ rfl)⟩, ?_⟩
 have O2 := ((O2_.ext e46).ext e53).ext (Ext.drew _)
 have O3 := ((O3_.ext e46).ext e53).ext (Ext.drew _)
 have O4 := ((O4_.ext e46).ext e53).ext (Ext.drew _)
 have O5 := O5.ext (Ext.drew _)
 have O6 := (O6.ext e53).ext (Ext.drew _)
 have hB := qa5 (qa5 hB e53) (Ext.drew _)
 have hS62 := (Chg.refl (fun _ => False) w52).then (Ext.drew _)
 obtain ⟨hp70, H⟩ := H
 obtain ⟨r68, hr69, H⟩ := qad H
 refine (qcp.con hp70 hr69 O2.row O2.le O3.row O3.le O4.row O4.le).mono ?_
 rintro _ w71 ⟨rfl, e72⟩
 have O2 := O2.ext e72
 have O3 := O3.ext e72
 have O4 := O4.ext e72
 have O5 := O5.ext e72
 have O6 := O6.ext e72
 have hB := qa5 hB e72
 have hS62 := hS62.then e72
 refine ⟨r68, rfl, qa2 hS62, _, _, _, (O5.a 0), _, _, _, (O5.a 1), _, _, _, (O5.a 2), _, (O5.a 3), _, (O5.a 4), ?_⟩
 obtain ⟨hp75, H⟩ := H
 obtain ⟨r73, hr74, H⟩ := qad H
 refine (qbi.con hp75 hr74 O2.row O2.le O3.row O3.le O4.row O4.le O6.row O6.le).mono ?_
 rintro _ w76 ⟨A78, c79, A80, c81, F84, A82, c83, rfl, P8, P9, P10, N9_10, e77⟩
 have O8 := P8.mono hB.size
 have O9 := P9.mono hB.size
 have O10 := P10.mono hB.size
 refine ⟨(.agg (bC A78 c79 A80 c81 A82 c83 r73.1)), A78, r73.1.Code.length, c79, trivial, A80, r73.1.Warps.length, c81, trivial, A82, r73.1.Memory.length, c83, trivial, r73.1.Waiting, trivial, r73.1.Phase, trivial, rfl, (iv r73.2), r73.2, rfl, rfl, ?_⟩
 refine qiV (bC A78 c79 A80 c81 A82 c83 r73.1) (fun g11_ w87 L11 O11 e88 => ?_)
 have O2 := (O2.ext e77).ext e88
 have O3 := (O3.ext e77).ext e88
 have O4 := (O4.ext e77).ext e88
 have O5 := (O5.ext e77).ext e88
 have O6 := (O6.ext e77).ext e88
 have O8 := O8.ext e88
 have O9 := O9.ext e88
 have O10 := O10.ext e88
 have hB := qa5 (qa5 hB e77) e88
 obtain ⟨K241, hKK241, H⟩ := qcR H
 refine ⟨fun z_ w_ => ∃ (xs89 : List D.Ins) (xs93 : List D.Warp) (xs96 : List Int) (i99 i100 i101 : Int) (g21_ : Nat) (A90 : OA) (c91 : Nat) (A94 : OA) (c95 : Nat) (F92 : Nat → Prop) (A97 : OA) (c98 : Nat), z_ = ((bx g21_), i101, ()) ∧ K241 (xs89, xs93, xs96, i99, i100, i101, ()) ∧ Ext w w_ ∧ Blk w_ g21_ 33 #[(sv A90 xs89.length c91), (sv A94 xs93.length c95), (sv A97 xs96.length c98), (iv i99), (iv i100)] ∧ w.heap.size ≤ g21_ ∧ Own el84 w_ w.heap.size A90 c91 xs89 ∧ OwnW 52 el91 el3 w_ w.heap.size F92 A94 c95 xs93 ∧ Own el3 w_ w.heap.size A97 c98 xs96 ∧ Own el84 w_ w.heap.size A31 c32 r26.Code ∧ OwnW 52 el91 el3 w_ w.heap.size F37 A33 c34 r26.Warps ∧ Own el3 w_ w.heap.size A35 c36 r26.Memory ∧ Blk w_ g5_ 33 (bC A31 c32 A33 c34 A35 c36 r26) ∧ Own el3 w_ w.heap.size A47 c48 r42 ∧ Own el84 w_ w.heap.size A78 c79 r73.1.Code ∧ OwnW 52 el91 el3 w_ w.heap.size F84 A80 c81 r73.1.Warps ∧ Own el3 w_ w.heap.size A82 c83 r73.1.Memory ∧ Blk w_ g11_ 33 (bC A78 c79 A80 c81 A82 c83 r73.1) ∧ qcy A31 A90 ∧ qcy A35 A97 ∧ g5_ ≠ g21_ ∧ qcy A47 A97 ∧ qcy A78 A90 ∧ qcy A82 A97 ∧ g11_ ≠ g21_, ?_, ?_⟩
 ·refine ⟨(fun _ => False), _, _, _, noM (O5.a 0), _, _, _, noM (O5.a 1), _, _, _, noM (O5.a 2), _, noM (O5.a 3), _, noM (O5.a 4), ?_⟩
  obtain ⟨⟨hh106, hh107⟩, H⟩ := H
  refine and_assoc.1 ⟨⟨hh106, Int.le_trans hh107 (Int.ofNat_le.2 O6.le)⟩, ?_⟩
  rw [show ((Int.tmod (rd r49 0) (wrap .i64 ((r42.length : Int) + 1))).toNat) = ((List.take ((Int.tmod (rd r49 0) (wrap .i64 ((r42.length : Int) + 1))).toNat) r42)).length from by first | rfl | (simp; done) | (simp; omega)]
  have O25 := (O6.take ((Int.tmod (rd r49 0) (wrap .i64 ((r42.length : Int) + 1))).toNat))
  refine And.intro ?_ ?_
  ·have H := H.1
   have O2 := O2.ext (Ext.drew _)
   have O3 := O3.ext (Ext.drew _)
   have O4 := O4.ext (Ext.drew _)
   have O5 := O5.ext (Ext.drew _)
   have O6 := O6.ext (Ext.drew _)
   have O8 := O8.ext (Ext.drew _)
   have O9 := O9.ext (Ext.drew _)
   have O10 := O10.ext (Ext.drew _)
   have O11 := O11.ext (Ext.drew _)
   have O25 := O25.ext (Ext.drew _)
   have hB := qa5 hB (Ext.drew _)
   have hS105 := (Chg.refl (fun _ => False) w87).then (Ext.drew _)
   obtain ⟨hp110, H⟩ := H
   obtain ⟨r108, hr109, H⟩ := qad H
   refine (qbi.con hp110 hr109 O2.row O2.le O3.row O3.le O4.row O4.le O25.row O25.le).mono ?_
   rintro _ w111 ⟨A113, c114, A115, c116, F119, A117, c118, rfl, P26, P27, P28, N27_28, e112⟩
   have N2_26 := aN O2 P26
   have N8_26 := aN O8 P26
   have N4_28 := aN O4 P28
   have N6_28 := aN O6 P28
   have N10_28 := aN O10 P28
   have O2 := O2.ext e112
   have O3 := O3.ext e112
   have O4 := O4.ext e112
   have O5 := O5.ext e112
   have O6 := O6.ext e112
   have O8 := O8.ext e112
   have O9 := O9.ext e112
   have O10 := O10.ext e112
   have O11 := O11.ext e112
   have O26 := P26.mono hB.size
   have O27 := P27.mono hB.size
   have O28 := P28.mono hB.size
   have hB := qa5 hB e112
   have hS105 := hS105.then e112
   refine ⟨(.agg (bC A113 c114 A115 c116 A117 c118 r108.1)), A113, r108.1.Code.length, c114, trivial, A115, r108.1.Warps.length, c116, trivial, A117, r108.1.Memory.length, c118, trivial, r108.1.Waiting, trivial, r108.1.Phase, trivial, rfl, (iv r108.2), r108.2, rfl, rfl, qa2 hS105, ?_⟩
   refine qax (fun g29_ w120 L29 P29 e121 => ?_)
   have N2_29 := O2.qag L29
   have N3_29 := O3.qcv L29
   have N4_29 := O4.qag L29
   have N5_29 := O5.ne L29
   have N6_29 := O6.qag L29
   have N8_29 := O8.qag L29
   have N9_29 := O9.qcv L29
   have N10_29 := O10.qag L29
   have N11_29 := O11.ne L29
   have N26_29 := O26.qag L29
   have N27_29 := O27.qcv L29
   have N28_29 := O28.qag L29
   have O29 := P29
   have LB29 := Nat.le_trans hS105.size L29
   have L29 := Nat.le_trans hB.size L29
   have hB := qa5 hB e121
   have hS105 := hS105.then e121
   refine ⟨qa2 hS105, ?_⟩
   refine qbI O29 (o := 0) (cs' := (bC A113 c114 A115 c116 A117 c118 r108.1)) rfl rfl (Nat.le_of_ble_eq_true rfl) rfl (fun w122 O29 e123 => ?_)
   have O2 := (O2.ext e121).chg e123 N2_29
   have O3 := (O3.ext e121).chg e123 N3_29
   have O4 := (O4.ext e121).chg e123 N4_29
   have O5 := (O5.ext e121).chg e123 N5_29
   have O6 := (O6.ext e121).chg e123 N6_29
   have O8 := (O8.ext e121).chg e123 N8_29
   have O9 := (O9.ext e121).chg e123 N9_29
   have O10 := (O10.ext e121).chg e123 N10_29
   have O11 := (O11.ext e121).chg e123 N11_29
   have O26 := (O26.ext e121).chg e123 N26_29
   have O27 := (O27.ext e121).chg e123 N27_29
   have O28 := (O28.ext e121).chg e123 N28_29
   have hB := echg hB e123 L29
   have hS105 := hS105.chgb e123 (Or.inl LB29)
   refine ⟨qa2 hS105, ?_⟩
   exact ⟨_, _, _, _, _, _, g29_, A113, c114, A115, c116, F119, A117, c118, rfl, H, hB, O29, L29, O26, O27, O28, O2, O3, O4, O5, O6, O8, O9, O10, O11, N2_26, N4_28, N5_29, N6_28, N8_26, N10_28, N11_29⟩
  refine And.intro ?_ ?_
  ·have H := H.2.1
   have O2 := O2.ext (Ext.drew _)
   have O3 := O3.ext (Ext.drew _)
   have O4 := O4.ext (Ext.drew _)
   have O5 := O5.ext (Ext.drew _)
   have O6 := O6.ext (Ext.drew _)
   have O8 := O8.ext (Ext.drew _)
   have O9 := O9.ext (Ext.drew _)
   have O10 := O10.ext (Ext.drew _)
   have O11 := O11.ext (Ext.drew _)
   have hB := qa5 hB (Ext.drew _)
   have hS105 := (Chg.refl (fun _ => False) w87).then (Ext.drew _)
   refine qax (fun g30_ w124 L30 P30 e125 => ?_)
   have N2_30 := O2.qag L30
   have N3_30 := O3.qcv L30
   have N4_30 := O4.qag L30
   have N5_30 := O5.ne L30
   have N6_30 := O6.qag L30
   have N8_30 := O8.qag L30
   have N9_30 := O9.qcv L30
   have N10_30 := O10.qag L30
   have N11_30 := O11.ne L30
   have O2 := O2.ext e125
   have O3 := O3.ext e125
   have O4 := O4.ext e125
   have O6 := O6.ext e125
   have O8 := O8.ext e125
   have O10 := O10.ext e125
   have O25 := (O25.ext (Ext.drew _)).ext e125
   have O30 := P30
   have LB30 := Nat.le_trans hS105.size L30
   have L30 := Nat.le_trans hB.size L30
   have hB := qa5 hB e125
   have hS105 := hS105.then e125
   refine ⟨qa2 hS105, ?_⟩
   obtain ⟨hp128, H⟩ := H
   obtain ⟨r126, hr127, H⟩ := qad H
   refine (qbi.con hp128 hr127 O2.row O2.le O3.row O3.le O4.row O4.le O25.row O25.le).mono ?_
   rintro _ w129 ⟨A131, c132, A133, c134, F137, A135, c136, rfl, P31, P32, P33, N32_33, e130⟩
   have N2_31 := aN O2 P31
   have N8_31 := aN O8 P31
   have N31_30 := P31.qa8 O30.lt
   have N32_30 := P32.qeT O30 (Nat.le_refl _)
   have N4_33 := aN O4 P33
   have N6_33 := aN O6 P33
   have N10_33 := aN O10 P33
   have N33_30 := P33.qa8 O30.lt
   have O30 := O30.ext e130
   have O31 := P31.mono hB.size
   have O32 := P32.mono hB.size
   have O33 := P33.mono hB.size
   have hB := qa5 hB e130
   have hS105 := hS105.then e130
   refine ⟨(.agg (bC A131 c132 A133 c134 A135 c136 r126.1)), A131, r126.1.Code.length, c132, trivial, A133, r126.1.Warps.length, c134, trivial, A135, r126.1.Memory.length, c136, trivial, r126.1.Waiting, trivial, r126.1.Phase, trivial, rfl, (iv r126.2), r126.2, rfl, rfl, qa2 hS105, ?_⟩
   refine qbI O30 (o := 0) (cs' := (bC A131 c132 A133 c134 A135 c136 r126.1)) rfl rfl (Nat.le_of_ble_eq_true rfl) rfl (fun w138 O30 e139 => ?_)
   have O2 := (O2.ext e130).chg e139 N2_30
   have O3 := (O3.ext e130).chg e139 N3_30
   have O4 := (O4.ext e130).chg e139 N4_30
   have O5 := ((O5.ext e125).ext e130).chg e139 N5_30
   have O6 := (O6.ext e130).chg e139 N6_30
   have O8 := (O8.ext e130).chg e139 N8_30
   have O9 := ((O9.ext e125).ext e130).chg e139 N9_30
   have O10 := (O10.ext e130).chg e139 N10_30
   have O11 := ((O11.ext e125).ext e130).chg e139 N11_30
   have O31 := O31.chg e139 N31_30
   have O32 := O32.chg e139 N32_30
   have O33 := O33.chg e139 N33_30
   have hB := echg hB e139 L30
   have hS105 := hS105.chgb e139 (Or.inl LB30)
   refine ⟨qa2 hS105, ?_⟩
   exact ⟨_, _, _, _, _, _, g30_, A131, c132, A133, c134, F137, A135, c136, rfl, H, hB, O30, L30, O31, O32, O33, O2, O3, O4, O5, O6, O8, O9, O10, O11, N2_31, N4_33, N5_30, N6_33, N8_31, N10_33, N11_30⟩
  exact trivial
 rintro _ w103 ⟨xs89, xs93, xs96, i99, i100, i101, g21_, A90, c91, A94, c95, F92, A97, c98, rfl, H, hB, O21, L21, O22, O23, O24, O2, O3, O4, O5, O6, O8, O9, O10, O11, N2_22, N4_24, N5_21, N6_24, N8_22, N10_24, N11_21⟩
 have H := hKK241 _ H
 try dsimp only at H ⊢
 obtain ⟨K239, hKK239, H⟩ := qcR H
 refine ⟨fun z_ w_ => ∃ (xs140 : List D.Ins) (xs144 : List D.Warp) (xs147 : List Int) (i150 i151 i152 : Int) (g43_ : Nat) (A141 : OA) (c142 : Nat) (A145 : OA) (c146 : Nat) (F143 : Nat → Prop) (A148 : OA) (c149 : Nat), z_ = ((bx g43_), i152, ()) ∧ K239 (xs140, xs144, xs147, i150, i151, i152, ()) ∧ Ext w w_ ∧ Blk w_ g43_ 33 #[(sv A141 xs140.length c142), (sv A145 xs144.length c146), (sv A148 xs147.length c149), (iv i150), (iv i151)] ∧ w.heap.size ≤ g43_ ∧ Own el84 w_ w.heap.size A141 c142 xs140 ∧ OwnW 52 el91 el3 w_ w.heap.size F143 A145 c146 xs144 ∧ Own el3 w_ w.heap.size A148 c149 xs147 ∧ Own el84 w_ w.heap.size A31 c32 r26.Code ∧ OwnW 52 el91 el3 w_ w.heap.size F37 A33 c34 r26.Warps ∧ Own el3 w_ w.heap.size A35 c36 r26.Memory ∧ Blk w_ g5_ 33 (bC A31 c32 A33 c34 A35 c36 r26) ∧ Own el84 w_ w.heap.size A78 c79 r73.1.Code ∧ OwnW 52 el91 el3 w_ w.heap.size F84 A80 c81 r73.1.Warps ∧ Own el3 w_ w.heap.size A82 c83 r73.1.Memory ∧ Blk w_ g11_ 33 (bC A78 c79 A80 c81 A82 c83 r73.1) ∧ qcy A31 A141 ∧ qcy A35 A148 ∧ g5_ ≠ g43_ ∧ qcy A78 A141 ∧ qcy A82 A148 ∧ g11_ ≠ g43_, ?_, ?_⟩
 ·refine ⟨(fun _ => False), _, _, _, noM (O21.a 0), _, _, _, noM (O21.a 1), _, _, _, noM (O21.a 2), _, noM (O21.a 3), _, noM (O21.a 4), ?_⟩
  obtain ⟨⟨hl157, hl158⟩, H⟩ := H
  refine and_assoc.1 ⟨⟨hl157, hl158⟩, ?_⟩
  rw [show (r42.length - ((Int.tmod (rd r49 0) (wrap .i64 ((r42.length : Int) + 1))).toNat)) = ((List.drop ((Int.tmod (rd r49 0) (wrap .i64 ((r42.length : Int) + 1))).toNat) r42)).length from by first | rfl | (simp; done) | (simp; omega)]
  have O47 := (O6.drop (l := ((Int.tmod (rd r49 0) (wrap .i64 ((r42.length : Int) + 1))).toNat)) (by first | omega | (simp; done) | (simp; omega)))
  refine And.intro ?_ ?_
  ·have H := H.1
   have O2 := O2.ext (Ext.drew _)
   have O3 := O3.ext (Ext.drew _)
   have O4 := O4.ext (Ext.drew _)
   have O5 := O5.ext (Ext.drew _)
   have O8 := O8.ext (Ext.drew _)
   have O9 := O9.ext (Ext.drew _)
   have O10 := O10.ext (Ext.drew _)
   have O11 := O11.ext (Ext.drew _)
   have O22 := O22.ext (Ext.drew _)
   have O23 := O23.ext (Ext.drew _)
   have O24 := O24.ext (Ext.drew _)
   have O47 := O47.ext (Ext.drew _)
   have hB := qa5 hB (Ext.drew _)
   have hS156 := (Chg.refl (fun _ => False) w103).then (Ext.drew _)
   obtain ⟨hp161, H⟩ := H
   obtain ⟨r159, hr160, H⟩ := qad H
   refine (qbi.con hp161 hr160 O22.row O22.le O23.row O23.le O24.row O24.le O47.row O47.le).mono ?_
   rintro _ w162 ⟨A164, c165, A166, c167, F170, A168, c169, rfl, P48, P49, P50, N49_50, e163⟩
   have N2_48 := aN O2 P48
   have N8_48 := aN O8 P48
   have N4_50 := aN O4 P50
   have N10_50 := aN O10 P50
   have O2 := O2.ext e163
   have O3 := O3.ext e163
   have O4 := O4.ext e163
   have O5 := O5.ext e163
   have O8 := O8.ext e163
   have O9 := O9.ext e163
   have O10 := O10.ext e163
   have O11 := O11.ext e163
   have O48 := P48.mono hB.size
   have O49 := P49.mono hB.size
   have O50 := P50.mono hB.size
   have hB := qa5 hB e163
   have hS156 := hS156.then e163
   refine ⟨(.agg (bC A164 c165 A166 c167 A168 c169 r159.1)), A164, r159.1.Code.length, c165, trivial, A166, r159.1.Warps.length, c167, trivial, A168, r159.1.Memory.length, c169, trivial, r159.1.Waiting, trivial, r159.1.Phase, trivial, rfl, (iv r159.2), r159.2, rfl, rfl, qa2 hS156, ?_⟩
   refine qax (fun g51_ w171 L51 P51 e172 => ?_)
   have N2_51 := O2.qag L51
   have N3_51 := O3.qcv L51
   have N4_51 := O4.qag L51
   have N5_51 := O5.ne L51
   have N8_51 := O8.qag L51
   have N9_51 := O9.qcv L51
   have N10_51 := O10.qag L51
   have N11_51 := O11.ne L51
   have N48_51 := O48.qag L51
   have N49_51 := O49.qcv L51
   have N50_51 := O50.qag L51
   have O51 := P51
   have LB51 := Nat.le_trans hS156.size L51
   have L51 := Nat.le_trans hB.size L51
   have hB := qa5 hB e172
   have hS156 := hS156.then e172
   refine ⟨qa2 hS156, ?_⟩
   refine qbI O51 (o := 0) (cs' := (bC A164 c165 A166 c167 A168 c169 r159.1)) rfl rfl (Nat.le_of_ble_eq_true rfl) rfl (fun w173 O51 e174 => ?_)
   have O2 := (O2.ext e172).chg e174 N2_51
   have O3 := (O3.ext e172).chg e174 N3_51
   have O4 := (O4.ext e172).chg e174 N4_51
   have O5 := (O5.ext e172).chg e174 N5_51
   have O8 := (O8.ext e172).chg e174 N8_51
   have O9 := (O9.ext e172).chg e174 N9_51
   have O10 := (O10.ext e172).chg e174 N10_51
   have O11 := (O11.ext e172).chg e174 N11_51
   have O48 := (O48.ext e172).chg e174 N48_51
   have O49 := (O49.ext e172).chg e174 N49_51
   have O50 := (O50.ext e172).chg e174 N50_51
   have hB := echg hB e174 L51
   have hS156 := hS156.chgb e174 (Or.inl LB51)
   refine ⟨qa2 hS156, ?_⟩
   exact ⟨_, _, _, _, _, _, g51_, A164, c165, A166, c167, F170, A168, c169, rfl, H, hB, O51, L51, O48, O49, O50, O2, O3, O4, O5, O8, O9, O10, O11, N2_48, N4_50, N5_51, N8_48, N10_50, N11_51⟩
  refine And.intro ?_ ?_
  ·have H := H.2.1
   have O2 := O2.ext (Ext.drew _)
   have O3 := O3.ext (Ext.drew _)
   have O4 := O4.ext (Ext.drew _)
   have O5 := O5.ext (Ext.drew _)
   have O8 := O8.ext (Ext.drew _)
   have O9 := O9.ext (Ext.drew _)
   have O10 := O10.ext (Ext.drew _)
   have O11 := O11.ext (Ext.drew _)
   have hB := qa5 hB (Ext.drew _)
   have hS156 := (Chg.refl (fun _ => False) w103).then (Ext.drew _)
   refine qax (fun g52_ w175 L52 P52 e176 => ?_)
   have N2_52 := O2.qag L52
   have N3_52 := O3.qcv L52
   have N4_52 := O4.qag L52
   have N5_52 := O5.ne L52
   have N8_52 := O8.qag L52
   have N9_52 := O9.qcv L52
   have N10_52 := O10.qag L52
   have N11_52 := O11.ne L52
   have O2 := O2.ext e176
   have O4 := O4.ext e176
   have O8 := O8.ext e176
   have O10 := O10.ext e176
   have O22 := (O22.ext (Ext.drew _)).ext e176
   have O23 := (O23.ext (Ext.drew _)).ext e176
   have O24 := (O24.ext (Ext.drew _)).ext e176
   have O47 := (O47.ext (Ext.drew _)).ext e176
   have O52 := P52
   have LB52 := Nat.le_trans hS156.size L52
   have L52 := Nat.le_trans hB.size L52
   have hB := qa5 hB e176
   have hS156 := hS156.then e176
   refine ⟨qa2 hS156, ?_⟩
   obtain ⟨hp179, H⟩ := H
   obtain ⟨r177, hr178, H⟩ := qad H
   refine (qbi.con hp179 hr178 O22.row O22.le O23.row O23.le O24.row O24.le O47.row O47.le).mono ?_
   rintro _ w180 ⟨A182, c183, A184, c185, F188, A186, c187, rfl, P53, P54, P55, N54_55, e181⟩
   have N2_53 := aN O2 P53
   have N8_53 := aN O8 P53
   have N53_52 := P53.qa8 O52.lt
   have N54_52 := P54.qeT O52 (Nat.le_refl _)
   have N4_55 := aN O4 P55
   have N10_55 := aN O10 P55
   have N55_52 := P55.qa8 O52.lt
   have O52 := O52.ext e181
   have O53 := P53.mono hB.size
   have O54 := P54.mono hB.size
   have O55 := P55.mono hB.size
   have hB := qa5 hB e181
   have hS156 := hS156.then e181
   refine ⟨(.agg (bC A182 c183 A184 c185 A186 c187 r177.1)), A182, r177.1.Code.length, c183, trivial, A184, r177.1.Warps.length, c185, trivial, A186, r177.1.Memory.length, c187, trivial, r177.1.Waiting, trivial, r177.1.Phase, trivial, rfl, (iv r177.2), r177.2, rfl, rfl, qa2 hS156, ?_⟩
   refine qbI O52 (o := 0) (cs' := (bC A182 c183 A184 c185 A186 c187 r177.1)) rfl rfl (Nat.le_of_ble_eq_true rfl) rfl (fun w189 O52 e190 => ?_)
   have O2 := (O2.ext e181).chg e190 N2_52
   have O3 := ((O3.ext e176).ext e181).chg e190 N3_52
   have O4 := (O4.ext e181).chg e190 N4_52
   have O5 := ((O5.ext e176).ext e181).chg e190 N5_52
   have O8 := (O8.ext e181).chg e190 N8_52
   have O9 := ((O9.ext e176).ext e181).chg e190 N9_52
   have O10 := (O10.ext e181).chg e190 N10_52
   have O11 := ((O11.ext e176).ext e181).chg e190 N11_52
   have O53 := O53.chg e190 N53_52
   have O54 := O54.chg e190 N54_52
   have O55 := O55.chg e190 N55_52
   have hB := echg hB e190 L52
   have hS156 := hS156.chgb e190 (Or.inl LB52)
   refine ⟨qa2 hS156, ?_⟩
   exact ⟨_, _, _, _, _, _, g52_, A182, c183, A184, c185, F188, A186, c187, rfl, H, hB, O52, L52, O53, O54, O55, O2, O3, O4, O5, O8, O9, O10, O11, N2_53, N4_55, N5_52, N8_53, N10_55, N11_52⟩
  exact trivial
 rintro _ w154 ⟨xs140, xs144, xs147, i150, i151, i152, g43_, A141, c142, A145, c146, F143, A148, c149, rfl, H, hB, O43, L43, O44, O45, O46, O2, O3, O4, O5, O8, O9, O10, O11, N2_44, N4_46, N5_43, N8_44, N10_46, N11_43⟩
 have H := hKK239 _ H
 try dsimp only at H ⊢
 obtain ⟨K237, hKK237, H⟩ := qcR H
 refine ⟨fun z_ w_ => z_ = (()) ∧ K237 (()) ∧ Ext w w_ ∧ Own el84 w_ w.heap.size A78 c79 r73.1.Code ∧ OwnW 52 el91 el3 w_ w.heap.size F84 A80 c81 r73.1.Warps ∧ Own el3 w_ w.heap.size A82 c83 r73.1.Memory ∧ Blk w_ g11_ 33 (bC A78 c79 A80 c81 A82 c83 r73.1) ∧ Blk w_ g43_ 33 #[(sv A141 xs140.length c142), (sv A145 xs144.length c146), (sv A148 xs147.length c149), (iv i150), (iv i151)] ∧ Own el84 w_ w.heap.size A141 c142 xs140 ∧ OwnW 52 el91 el3 w_ w.heap.size F143 A145 c146 xs144 ∧ Own el3 w_ w.heap.size A148 c149 xs147, ?_, ?_⟩
 ·refine brc H (fun h H => ?_) fun h H => ?_
  ·refine ⟨_, _, _, (O5.a 0), _, _, _, (O5.a 1), _, _, _, (O5.a 2), _, (O5.a 3), _, (O5.a 4), ?_⟩
   obtain ⟨hp196, H⟩ := H
   obtain ⟨r194, hr195, H⟩ := qad H
   refine (qd3.con hp196 hr195 O2.row O2.le O3.row O3.le O4.row O4.le).mono ?_
   rintro _ w197 ⟨rfl, e198⟩
   have O2 := O2.ext e198
   have O3 := O3.ext e198
   have O4 := O4.ext e198
   have O5 := O5.ext e198
   have O8 := O8.ext e198
   have O9 := O9.ext e198
   have O10 := O10.ext e198
   have O11 := O11.ext e198
   have O43 := O43.ext e198
   have O44 := O44.ext e198
   have O45 := O45.ext e198
   have O46 := O46.ext e198
   have hB := qa5 hB e198
   refine ⟨r194, rfl, ?_⟩
   refine brc H (fun h H => ?_) fun h H => ?_
   ·cases hr.trans H.symm
    exact ⟨rfl, hB⟩
   refine brc H (fun h H => ?_) fun h H => ?_
   ·refine ⟨_, _, _, (O5.a 0), _, _, _, (O5.a 1), _, _, _, (O5.a 2), _, (O5.a 3), _, (O5.a 4), ?_⟩
    obtain ⟨hp201, H⟩ := H
    obtain ⟨r199, hr200, H⟩ := qad H
    refine (qbn.con hp201 hr200 O2.row O2.le O3.row O3.le O4.row O4.le).mono ?_
    rintro _ w202 ⟨rfl, e203⟩
    have O2 := O2.ext e203
    have O3 := O3.ext e203
    have O4 := O4.ext e203
    have O5 := O5.ext e203
    have O8 := O8.ext e203
    have O9 := O9.ext e203
    have O10 := O10.ext e203
    have O11 := O11.ext e203
    have O43 := O43.ext e203
    have O44 := O44.ext e203
    have O45 := O45.ext e203
    have O46 := O46.ext e203
    have hB := qa5 hB e203
    refine ⟨r199, rfl, ?_⟩
    refine brc H (fun h H => ?_) fun h H => ?_
    ·refine ⟨_, _, _, (O5.a 0), _, _, _, (O5.a 1), _, _, _, (O5.a 2), _, (O5.a 3), _, (O5.a 4), ?_⟩
     obtain ⟨hp206, H⟩ := H
     obtain ⟨r204, hr205, H⟩ := qad H
     refine (qbY.con hp206 hr205 O2.row O2.le O3.row O3.le O4.row O4.le).mono ?_
     rintro _ w207 ⟨rfl, e208⟩
     have O8 := O8.ext e208
     have O9 := O9.ext e208
     have O10 := O10.ext e208
     have O11 := O11.ext e208
     have O43 := O43.ext e208
     have O44 := O44.ext e208
     have O45 := O45.ext e208
     have O46 := O46.ext e208
     have hB := qa5 hB e208
     refine ⟨r204, rfl, ?_⟩
     refine brc H (fun h H => ?_) fun h H => ?_
     ·cases hr.trans H.symm
      exact ⟨rfl, hB⟩
     exact ⟨rfl, H, hB, O8, O9, O10, O11, O43, O44, O45, O46⟩
    exact ⟨rfl, H, hB, O8, O9, O10, O11, O43, O44, O45, O46⟩
   exact ⟨rfl, H, hB, O8, O9, O10, O11, O43, O44, O45, O46⟩
  refine brc H (fun h H => ?_) fun h H => ?_
  ·refine ⟨_, _, _, (O5.a 0), _, _, _, (O5.a 1), _, _, _, (O5.a 2), _, (O5.a 3), _, (O5.a 4), ?_⟩
   obtain ⟨hp215, H⟩ := H
   obtain ⟨r213, hr214, H⟩ := qad H
   refine (qbn.con hp215 hr214 O2.row O2.le O3.row O3.le O4.row O4.le).mono ?_
   rintro _ w216 ⟨rfl, e217⟩
   have O2 := O2.ext e217
   have O3 := O3.ext e217
   have O4 := O4.ext e217
   have O5 := O5.ext e217
   have O8 := O8.ext e217
   have O9 := O9.ext e217
   have O10 := O10.ext e217
   have O11 := O11.ext e217
   have O43 := O43.ext e217
   have O44 := O44.ext e217
   have O45 := O45.ext e217
   have O46 := O46.ext e217
   have hB := qa5 hB e217
   refine ⟨r213, rfl, ?_⟩
   refine brc H (fun h H => ?_) fun h H => ?_
   ·refine ⟨_, _, _, (O5.a 0), _, _, _, (O5.a 1), _, _, _, (O5.a 2), _, (O5.a 3), _, (O5.a 4), ?_⟩
    obtain ⟨hp220, H⟩ := H
    obtain ⟨r218, hr219, H⟩ := qad H
    refine (qbY.con hp220 hr219 O2.row O2.le O3.row O3.le O4.row O4.le).mono ?_
    rintro _ w221 ⟨rfl, e222⟩
    have O8 := O8.ext e222
    have O9 := O9.ext e222
    have O10 := O10.ext e222
    have O11 := O11.ext e222
    have O43 := O43.ext e222
    have O44 := O44.ext e222
    have O45 := O45.ext e222
    have O46 := O46.ext e222
    have hB := qa5 hB e222
    refine ⟨r218, rfl, ?_⟩
    refine brc H (fun h H => ?_) fun h H => ?_
    ·cases hr.trans H.symm
     exact ⟨rfl, hB⟩
    exact ⟨rfl, H, hB, O8, O9, O10, O11, O43, O44, O45, O46⟩
   exact ⟨rfl, H, hB, O8, O9, O10, O11, O43, O44, O45, O46⟩
  exact ⟨rfl, H, hB, O8, O9, O10, O11, O43, O44, O45, O46⟩
 rintro _ w192 ⟨rfl, H, hB, O8, O9, O10, O11, O43, O44, O45, O46⟩
 have H := hKK237 _ H
 try dsimp only at H ⊢
 refine brc H (fun h H => ?_) fun h H => ?_
 ·refine brc H (fun h H => ?_) fun h H => ?_
  ·refine brc H (fun h H => ?_) fun h H => ?_
   ·refine brc H (fun h H => ?_) fun h H => ?_
    ·refine ⟨_, _, _, (O11.a 0), _, _, _, (O11.a 1), _, _, _, (O11.a 2), _, (O11.a 3), _, (O11.a 4), _, _, _, (O43.a 0), _, _, _, (O43.a 1), _, _, _, (O43.a 2), _, (O43.a 3), _, (O43.a 4), ?_⟩
     obtain ⟨hp229, H⟩ := H
     obtain ⟨r227, hr228, H⟩ := qad H
     refine (qce.con hp229 hr228 O8.row O8.le O9.row O9.le O10.row O10.le O44.row O44.le O45.row O45.le O46.row O46.le).mono ?_
     rintro _ w230 ⟨rfl, e231⟩
     have hB := qa5 hB e231
     refine ⟨r227, rfl, ?_⟩
     cases hr.trans H.symm
     exact ⟨rfl, hB⟩
    cases hr.trans H.symm
    exact ⟨rfl, hB⟩
   cases hr.trans H.symm
   exact ⟨rfl, hB⟩
  cases hr.trans H.symm
  exact ⟨rfl, hB⟩
 cases hr.trans H.symm
 exact ⟨rfl, hB⟩
end Go.V
