import Derived.Test.YtkpfabigipedcaaGreatWaCon2
namespace Go.V
open Go.Proofs
open IntKind (wrap)
set_option linter.unusedVariables false
set_option linter.unusedSimpArgs false
set_option maxRecDepth 100000
def spec_l30All.vc (A0_0 : OA) (n0_0 c0_0 : Nat) (A0_1 : OA) (n0_1 c0_1 : Nat) (A0_2 : OA) (n0_2 c0_2 : Nat) (x0_3 x0_4 : Int) (w : World) (K : VK) : Prop :=
  newK w (.cells (vB A0_0 n0_0 c0_0 A0_1 n0_1 c0_1 A0_2 n0_2 c0_2 x0_3 x0_4) 33) fun g21 w22 => LoopT (σ := Int × Unit) (fun z23 w24 next25 => ldS w24 (((bx g21).add 1).add 0) fun A26 n27 c28 => bcase (decide (z23.1 < ((n27 : Nat) : Int))) (ldS w24 (((bx g21).add 1).add 0) fun A29 n30 c31 => (idx z23.1 n30 A29 fun a32 => ldS w24 (((a32.add ((z23.1.toNat) * 3)).add 1).add 0) fun A33 n34 c35 => bcase (decide (((n34 : Nat) : Int) > 0)) (ldI w24 (((bx g21).add 3).add 0) fun n36 => ((0 : Int) ≤ z23.1 ∧ bcase ((bitAnd .i64 (Int.fdiv n36 (2 ^ (min (z23.1.toNat) (IntKind.bits .i64)))) 1) == 0) (K (.bool false) w24) (next25 ((wrap .i64 (z23.1 + 1)), ()) w24))) (next25 ((wrap .i64 (z23.1 + 1)), ()) w24))) (ldI w24 (((bx g21).add 3).add 0) fun n37 => K (.bool (n37 != 0)) w24)) (0, ()) w22

def spec_l30All.ann : Ann := (.seq .l (.seq (.seq .l (.one (.loop [(3, .int .i64)] (.seq (.seq .l (.two .l .l)) (.seq (.one (.seq .l (.two (.seq .l .l) .l))) .l))))) (.seq .l .l)))

theorem spec_l30All.con {s0 : D.Block} {A0_0 A0_1 A0_2 : OA} {c0_0 c0_1 c0_2 : Nat} {r : Bool} {w : World} (hp : M.spec_l30All_pre s0) (hr : r = M.spec_l30All s0) (R0_0 : Row el84 w A0_0 s0.Code) (hc0_0 : s0.Code.length ≤ c0_0) (R0_1 : RowW 52 el91 el3 w A0_1 s0.Warps) (hc0_1 : s0.Warps.length ≤ c0_1) (R0_2 : Row el3 w A0_2 s0.Memory) (hc0_2 : s0.Memory.length ≤ c0_2) :
    Cl 203 #[(.agg (bC A0_0 c0_0 A0_1 c0_1 A0_2 c0_2 s0))] w (fun v_ w_ => v_ = (.bool r) ∧ Ext w w_) := by
 have H := wp.spec_l30All.math s0 hp
 refine begK mixed Tryz.f203 ann (vc A0_0 s0.Code.length c0_0 A0_1 s0.Warps.length c0_1 A0_2 s0.Memory.length c0_2 s0.Waiting s0.Phase) ?_
 unfold vc
 unfold wp.spec_l30All at H
 refine newBlk (fun g4_ w21 L4 O4 e22 => ?_)
 have hB := ethen (Ext.refl w) e22
 obtain ⟨J25, ⟨m57, hJ56⟩, hS26⟩ := H
 refine ⟨fun m_ z_ w_ => ∃ (i23 : Int), z_ = (i23, ()) ∧ J25 m_ (i23, ()) ∧ Ext w w_ ∧ Blk w_ g4_ 33 (bC A0_0 c0_0 A0_1 c0_1 A0_2 c0_2 s0), ⟨m57, 0, rfl, hJ56, hB, O4⟩, ?_⟩
 rintro m24 _ w28 ⟨i23, rfl, hJ58, hB, O4⟩
 have H := hS26 m24 _ hJ58
 clear hS26 hJ58
 try dsimp only at H ⊢
 refine ⟨_, _, _, (O4.a 1), ?_⟩
 refine brc H (fun h H => ?_) fun h H => ?_
 ·refine ⟨_, _, _, (O4.a 1), ?_⟩
  obtain ⟨⟨h0_32, h1_33⟩, H⟩ := H
  obtain ⟨a30, ha31, A37, c38, A39, c40, f34, f35, f36, R41, hle43, R42, hle44⟩ := RowW.at R0_1 h0_32 h1_33
  refine ⟨h0_32, h1_33, a30, ha31, _, _, _, (Ext.cell hB f35), ?_⟩
  refine brc H (fun h H => ?_) fun h H => ?_
  ·refine ⟨_, (O4.a 3), ?_⟩
   obtain ⟨hc45, H⟩ := H
   refine ⟨hc45, ?_⟩
   refine brc H (fun h H => ?_) fun h H => ?_
   ·cases hr.trans H.symm
    exact ⟨rfl, hB⟩
   obtain ⟨m46, hm47, hJ48⟩ := H
   exact ⟨m46, hm47, _, rfl, hJ48, hB, O4⟩
  obtain ⟨m50, hm51, hJ52⟩ := H
  exact ⟨m50, hm51, _, rfl, hJ52, hB, O4⟩
 refine ⟨_, (O4.a 3), ?_⟩
 cases hr.trans H.symm
 exact ⟨rfl, hB⟩
def spec_l30Step.vc (A0_0 : OA) (n0_0 c0_0 : Nat) (A0_1 : OA) (n0_1 c0_1 : Nat) (A0_2 : OA) (n0_2 c0_2 : Nat) (x0_3 x0_4 x1 : Int) (w : World) (K : VK) : Prop :=
  newK w (.cells (vB A0_0 n0_0 c0_0 A0_1 n0_1 c0_1 A0_2 n0_2 c0_2 x0_3 x0_4) 33) fun g21 w22 => newK w22 (.cells zC 33) fun g23 w24 => ldB w24 (bx g21) fun A25 n26 c27 A28 n29 c30 A31 n32 c33 n34 n35 => Cl 199 #[(.agg (vB A25 n26 c27 A28 n29 c30 A31 n32 c33 n34 n35))] w24 fun v36 w37 => (∃ (A38 : OA) (n39 c40 : Nat), True ∧ ∃ (A41 : OA) (n42 c43 : Nat), True ∧ ∃ (A44 : OA) (n45 c46 : Nat), True ∧ ∃ (n47 : Int), True ∧ ∃ (n48 : Int), True ∧ v36 = (.agg (vB A38 n39 c40 A41 n42 c43 A44 n45 c46 n47 n48)) ∧ newK w37 (.cells zC 33) fun g49 w50 => stCells (bx g49) [(sv A38 n39 c40), (sv A41 n42 c43), (sv A44 n45 c46), (iv n47), (iv n48)] 0 w50 fun w51 => ldB w51 (bx g21) fun A52 n53 c54 A55 n56 c57 A58 n59 c60 n61 n62 => Cl 98 #[(.agg (vB A52 n53 c54 A55 n56 c57 A58 n59 c60 n61 n62)), (iv x1)] w51 fun v63 w64 => (∃ (n65 : Int), True ∧ ∃ (n66 : Int), True ∧ ∃ (n67 : Int), True ∧ ∃ (n68 : Int), True ∧ v63 = (.agg #[(iv n65), (iv n66), (iv n67), (iv n68)]) ∧ newK w64 (.cells #[(iv 0), (iv 0), (iv 0), (iv 0)] 84) fun g69 w70 => stCells (bx g69) [(iv n65), (iv n66), (iv n67), (iv n68)] 0 w70 fun w71 => JoinT (σ := Unit) (fun J72 => ldI w71 ((bx g69).add 0) fun n73 => ldI w71 ((bx g69).add 1) fun n74 => ldI w71 ((bx g69).add 2) fun n75 => ldI w71 ((bx g69).add 3) fun n76 => Cl 124 #[(.agg #[(iv n73), (iv n74), (iv n75), (iv n76)])] w71 fun v77 w78 => (∃ (b79 : Bool), v77 = (.bool b79) ∧ bcase b79 ((∃ M80 : Nat → Prop, ldSM M80 w78 ((bx g49).add 1) 0 fun A81 n82 c83 => ldSM M80 w78 ((bx g21).add 0) 0 fun A84 n85 c86 => ldSM M80 w78 ((bx g21).add 1) 0 fun A87 n88 c89 => (idx x1 n88 A87 fun a90 => ldIM M80 w78 (a90.add ((x1.toNat) * 3)) 0 fun n91 => ldSM M80 w78 (a90.add ((x1.toNat) * 3)) 1 fun A92 n93 c94 => ldSM M80 w78 (a90.add ((x1.toNat) * 3)) 2 fun A95 n96 c97 => Cl 200 #[(sv A84 n85 c86), (.agg #[(iv n91), (sv A92 n93 c94), (sv A95 n96 c97)])] w78.drew fun v98 w99 => (∃ (n100 : Int), True ∧ ∃ (A101 : OA) (n102 c103 : Nat), True ∧ ∃ (A104 : OA) (n105 c106 : Nat), True ∧ v98 = (.agg #[(iv n100), (sv A101 n102 c103), (sv A104 n105 c106)]) ∧ SameBut M80 w78 w99 ∧ (idx x1 n82 A81 fun a107 => stCells (a107.add ((x1.toNat) * 3)) [(iv n100), (sv A101 n102 c103), (sv A104 n105 c106)] 0 w99 fun w108 => J72 () w108))))) (ldB w78 (bx g49) fun A109 n110 c111 A112 n113 c114 A115 n116 c117 n118 n119 => Cl 201 #[(.agg (vB A109 n110 c111 A112 n113 c114 A115 n116 c117 n118 n119)), (iv x1)] w78 fun v120 w121 => (∃ (A122 : OA) (n123 c124 : Nat), True ∧ ∃ (A125 : OA) (n126 c127 : Nat), True ∧ ∃ (A128 : OA) (n129 c130 : Nat), True ∧ ∃ (n131 : Int), True ∧ ∃ (n132 : Int), True ∧ v120 = (.agg (vB A122 n123 c124 A125 n126 c127 A128 n129 c130 n131 n132)) ∧ stCells (bx g49) [(sv A122 n123 c124), (sv A125 n126 c127), (sv A128 n129 c130), (iv n131), (iv n132)] 0 w121 fun w133 => JoinT (σ := Unit) (fun J134 => ldI w133 (((bx g69).add 0).add 0) fun n135 => bcase (n135 == 16) (((0 : Int) ≤ x1 ∧ ((∃ (n136 : Int), w133.drew.cell? (((bx g49).add 3).add 0) = some (iv n136) ∧ ((stCells ((bx g49).add 3) [(iv (bitOr .i64 n136 (wrap .i64 (1 * 2 ^ (min (x1.toNat) (IntKind.bits .i64))))))] 0 w133.drew fun w137 => J134 () w137) ∧ True)) ∧ True))) (J134 () w133)) fun z138 w139 => ldS w139 (((bx g49).add 1).add 0) fun A140 n141 c142 => (idx x1 n141 A140 fun a143 => ldS w139 (((a143.add ((x1.toNat) * 3)).add 1).add 0) fun A144 n145 c146 => (∃ M147 : Nat → Prop, ldSM M147 w139 ((bx g49).add 1) 0 fun A148 n149 c150 => (idx x1 n149 A148 fun a151 => ldSM M147 w139 ((a151.add ((x1.toNat) * 3)).add 1) 0 fun A152 n153 c154 => ldSM M147 w139 ((bx g49).add 1) 0 fun A155 n156 c157 => (idx x1 n156 A155 fun a158 => ldSM M147 w139 ((a158.add ((x1.toNat) * 3)).add 1) 0 fun A159 n160 c161 => (idx (wrap .i64 (((n145 : Nat) : Int) - 1)) n160 A159 fun a162 => ldIM M147 w139 ((a162.add (((wrap .i64 (((n145 : Nat) : Int) - 1)).toNat) * 3)).add 0) 0 fun n163 => (idx (wrap .i64 (((n145 : Nat) : Int) - 1)) n153 A152 fun a164 => stCells ((a164.add (((wrap .i64 (((n145 : Nat) : Int) - 1)).toNat) * 3)).add 0) [(iv (wrap .i64 (n163 + 1)))] 0 w139.drew fun w165 => (∃ M166 : Nat → Prop, ldSM M166 w165 ((bx g49).add 1) 0 fun A167 n168 c169 => ldSM M166 w165 ((bx g21).add 0) 0 fun A170 n171 c172 => ldSM M166 w165 ((bx g49).add 1) 0 fun A173 n174 c175 => (idx x1 n174 A173 fun a176 => ldIM M166 w165 (a176.add ((x1.toNat) * 3)) 0 fun n177 => ldSM M166 w165 (a176.add ((x1.toNat) * 3)) 1 fun A178 n179 c180 => ldSM M166 w165 (a176.add ((x1.toNat) * 3)) 2 fun A181 n182 c183 => Cl 202 #[(sv A170 n171 c172), (.agg #[(iv n177), (sv A178 n179 c180), (sv A181 n182 c183)])] w165.drew fun v184 w185 => (∃ (n186 : Int), True ∧ ∃ (A187 : OA) (n188 c189 : Nat), True ∧ ∃ (A190 : OA) (n191 c192 : Nat), True ∧ v184 = (.agg #[(iv n186), (sv A187 n188 c189), (sv A190 n191 c192)]) ∧ SameBut M166 w165 w185 ∧ (idx x1 n168 A167 fun a193 => stCells (a193.add ((x1.toNat) * 3)) [(iv n186), (sv A187 n188 c189), (sv A190 n191 c192)] 0 w185 fun w194 => J72 () w194)))))))))))))) fun z195 w196 => ldB w196 (bx g49) fun A197 n198 c199 A200 n201 c202 A203 n204 c205 n206 n207 => Cl 203 #[(.agg (vB A197 n198 c199 A200 n201 c202 A203 n204 c205 n206 n207))] w196 fun v208 w209 => (∃ (b210 : Bool), v208 = (.bool b210) ∧ bcase b210 (stCells ((bx g49).add 3) [(iv 0)] 0 w209 fun w211 => ldI w211 (((bx g49).add 4).add 0) fun n212 => stCells ((bx g49).add 4) [(iv (wrap .i64 (n212 + 1)))] 0 w211 fun w213 => ldB w213 (bx g49) fun A214 n215 c216 A217 n218 c219 A220 n221 c222 n223 n224 => stCells (bx g23) [(sv A214 n215 c216), (sv A217 n218 c219), (sv A220 n221 c222), (iv n223), (iv n224)] 0 w213 fun w225 => ldB w225 (bx g23) fun A226 n227 c228 A229 n230 c231 A232 n233 c234 n235 n236 => K (.agg (vB A226 n227 c228 A229 n230 c231 A232 n233 c234 n235 n236)) w225) (ldB w209 (bx g49) fun A237 n238 c239 A240 n241 c242 A243 n244 c245 n246 n247 => stCells (bx g23) [(sv A237 n238 c239), (sv A240 n241 c242), (sv A243 n244 c245), (iv n246), (iv n247)] 0 w209 fun w248 => ldB w248 (bx g23) fun A249 n250 c251 A252 n253 c254 A255 n256 c257 n258 n259 => K (.agg (vB A249 n250 c251 A252 n253 c254 A255 n256 c257 n258 n259)) w248))))

def spec_l30Step.ann : Ann := (.seq .l (.seq .l (.seq .l (.cut [] (.seq .l (.two .l (.seq .l (.cut [] (.seq .l (.two .each .l)) (.seq .l (.seq .l .l)))))) (.seq (.seq .l (.two (.seq .l .l) .l)) (.seq .l .l))))))

theorem spec_l30Step.con {s0 r : D.Block} {A0_0 A0_1 A0_2 : OA} {c0_0 c0_1 c0_2 : Nat} {x1 : Int} {w : World} (hp : M.spec_l30Step_pre s0 x1) (hr : r = M.spec_l30Step s0 x1) (R0_0 : Row el84 w A0_0 s0.Code) (hc0_0 : s0.Code.length ≤ c0_0) (R0_1 : RowW 52 el91 el3 w A0_1 s0.Warps) (hc0_1 : s0.Warps.length ≤ c0_1) (R0_2 : Row el3 w A0_2 s0.Memory) (hc0_2 : s0.Memory.length ≤ c0_2) :
    Cl 164 #[(.agg (bC A0_0 c0_0 A0_1 c0_1 A0_2 c0_2 s0)), (iv x1)] w (fun v_ w_ => ∃ (A0_ : OA) (c0_ : Nat) (A1_ : OA) (c1_ : Nat) (F1_ : Nat → Prop) (A2_ : OA) (c2_ : Nat), v_ = (.agg (bC A0_ c0_ A1_ c1_ A2_ c2_ r)) ∧ Own el84 w_ w.heap.size A0_ c0_ r.Code ∧ OwnW 52 el91 el3 w_ w.heap.size F1_ A1_ c1_ r.Warps ∧ Own el3 w_ w.heap.size A2_ c2_ r.Memory ∧ Dis (InW A1_ F1_) (InB A2_) ∧ Ext w w_) := by
 have H := wp.spec_l30Step.math s0 x1 hp
 refine begK mixed Tryz.f164 ann (vc A0_0 s0.Code.length c0_0 A0_1 s0.Warps.length c0_1 A0_2 s0.Memory.length c0_2 s0.Waiting s0.Phase x1) ?_
 unfold vc
 unfold wp.spec_l30Step at H
 refine newBlk (fun g4_ w21 L4 O4 e22 => ?_)
 have hB := ethen (Ext.refl w) e22
 refine newBlk (fun g5_ w23 L5 P5 e24 => ?_)
 have O4 := O4.ext e24
 have O5 := P5
 have L5 := Nat.le_trans hB.size L5
 have hB := ethen hB e24
 refine ⟨_, _, _, (O4.a 0), _, _, _, (O4.a 1), _, _, _, (O4.a 2), _, (O4.a 3), _, (O4.a 4), ?_⟩
 obtain ⟨hp27, H⟩ := H
 obtain ⟨r25, hr26, H⟩ := callO H
 refine (spec_l29Copy.con hp27 hr26 (R0_0.ext hB) hc0_0 (R0_1.ext hB) hc0_1 (R0_2.ext hB) hc0_2).mono ?_
 rintro _ w28 ⟨A30, c31, A32, c33, F36, A34, c35, rfl, P6, P7, P8, N7_8, e29⟩
 have N6_5 := P6.apart_old O5.lt
 have N7_4 := P7.new_disbox O4 (Nat.le_refl _)
 have N7_5 := P7.new_disbox O5 (Nat.le_refl _)
 have N8_4 := P8.apart_old O4.lt
 have N8_5 := P8.apart_old O5.lt
 have O4 := O4.ext e29
 have O5 := O5.ext e29
 have O6 := P6.mono hB.size
 have O7 := P7.mono hB.size
 have O8 := P8.mono hB.size
 have hB := ethen hB e29
 refine ⟨A30, r25.Code.length, c31, trivial, A32, r25.Warps.length, c33, trivial, A34, r25.Memory.length, c35, trivial, r25.Waiting, trivial, r25.Phase, trivial, rfl, ?_⟩
 refine newBlk (fun g9_ w37 L9 P9 e38 => ?_)
 have N4_9 := O4.ne L9
 have N5_9 := O5.ne L9
 have N6_9 := O6.apart_new L9
 have N7_9 := O7.dis_newbox L9
 have N8_9 := O8.apart_new L9
 have O4 := O4.ext e38
 have O5 := O5.ext e38
 have O6 := O6.ext e38
 have O7 := O7.ext e38
 have O8 := O8.ext e38
 have O9 := P9
 have L9 := Nat.le_trans hB.size L9
 have hB := ethen hB e38
 refine stB O9 0 (bC A30 c31 A32 c33 A34 c35 r25) (fun w39 P9 e40 => ?_)
 have O4_ := O4.chg e40 N4_9
 have O5_ := O5.chg e40 N5_9
 have O6_ := O6.chg e40 N6_9
 have O7_ := O7.chg e40 N7_9
 have O8_ := O8.chg e40 N8_9
 have O4 := O4_
 have hB := echg hB e40 L9
 refine ⟨_, _, _, (O4.a 0), _, _, _, (O4.a 1), _, _, _, (O4.a 2), _, (O4.a 3), _, (O4.a 4), ?_⟩
 obtain ⟨hp43, H⟩ := H
 obtain ⟨r41, hr42, H⟩ := callO H
 refine (spec_l30Next.con hp43 hr42 (R0_0.ext hB) hc0_0 (R0_1.ext hB) hc0_1 (R0_2.ext hB) hc0_2).mono ?_
 rintro _ w44 ⟨rfl, e45⟩
 have O4 := O4.ext e45
 have O5 := O5_.ext e45
 have O6 := O6_.ext e45
 have O7 := O7_.ext e45
 have O8 := O8_.ext e45
 have O9 := P9.ext e45
 have hB := ethen hB e45
 refine ⟨r41.Op, trivial, r41.A, trivial, r41.B, trivial, r41.C, trivial, rfl, ?_⟩
 refine newBlk (fun g10_ w46 L10 P10 e47 => ?_)
 have N4_10 := O4.ne L10
 have N5_10 := O5.ne L10
 have N6_10 := O6.apart_new L10
 have N7_10 := O7.dis_newbox L10
 have N8_10 := O8.apart_new L10
 have N9_10 := O9.ne L10
 have O6 := O6.ext e47
 have O7 := O7.ext e47
 have O8 := O8.ext e47
 have O9 := O9.ext e47
 have O10 := P10
 have L10 := Nat.le_trans hB.size L10
 have hB := ethen hB e47
 refine stBlk O10 (o := 0) (cs' := (iC r41)) rfl rfl (Nat.le_of_ble_eq_true rfl) rfl (fun w48 O10 e49 => ?_)
 have O4 := (O4.ext e47).chg e49 N4_10
 have O5 := (O5.ext e47).chg e49 N5_10
 have O6_ := O6.chg e49 N6_10
 have O7_ := O7.chg e49 N7_10
 have O8_ := O8.chg e49 N8_10
 have O9_ := O9.chg e49 N9_10
 have O6 := O6_
 have O7 := O7_
 have O8 := O8_
 have O9 := O9_
 have hB := echg hB e49 L10
 obtain ⟨K169, hKK169, H⟩ := joinP_out H
 refine ⟨fun z_ w_ => ∃ (i50 i51 : Int) (xs52 : List D.Warp) (xs55 : List Int) (F53 : Nat → Prop), z_ = (()) ∧ K169 (i50, i51, xs52, xs55, ()) ∧ Ext w w_ ∧ Blk w_ g9_ 33 #[(sv A30 r25.Code.length c31), (sv A32 r25.Warps.length c33), (sv A34 r25.Memory.length c35), (iv i50), (iv i51)] ∧ OwnW 52 el91 el3 w_ w.heap.size F53 A32 c33 xs52 ∧ r25.Warps.length = xs52.length ∧ Dis (InW A32 F53) (InB A34) ∧ Own el3 w_ w.heap.size A34 c35 xs55 ∧ r25.Memory.length = xs55.length ∧ Blk w_ g5_ 33 zC ∧ Own el84 w_ w.heap.size A30 c31 r25.Code, ?_, ?_⟩
 ·refine ⟨_, (O10.a 0), _, (O10.a 1), _, (O10.a 2), _, (O10.a 3), ?_⟩
  obtain ⟨r60, hr61, H⟩ := callO H
  refine (spec_IsLocal.con hr61 ).mono ?_
  rintro _ w63 ⟨rfl, e64⟩
  have O4 := O4.ext e64
  have O5 := O5.ext e64
  have O6 := O6.ext e64
  have O7 := O7.ext e64
  have O8 := O8.ext e64
  have O9 := O9.ext e64
  have O10 := O10.ext e64
  have hB := ethen hB e64
  refine ⟨r60, rfl, ?_⟩
  refine brc H (fun h H => ?_) fun h H => ?_
  ·obtain ⟨⟨h0_66, h1_67⟩, H⟩ := H
   obtain ⟨g25_, o25_, z25_, A26_, c26_, A27_, c27_, R25_, G28_, hA28, ha28, ho28, O25, O26, O27, O28, hF28, N28_26, N28_27, N28_25, L25⟩ := OwnW.focus O7 h0_66 h1_67 (by decide) (by decide) (by decide)
   have N28_8 := dis_sub N7_8 (hole_sub hF28)
   refine ⟨(fun _ => False), _, _, _, noM (O9.a 1), _, _, _, noM (O4.a 0), _, _, _, noM (O4.a 1), ?_⟩
   obtain ⟨⟨h0_71, h1_72⟩, H⟩ := H
   obtain ⟨a69, ha70, A76, c77, A78, c79, f73, f74, f75, R80, hle82, R81, hle83⟩ := RowW.at R0_1 h0_71 h1_72
   refine ⟨h0_71, h1_72, a69, ha70, _, ⟨(fun h_ => h_), (Ext.cell hB f73)⟩, _, _, _, ⟨(fun h_ => h_), (Ext.cell hB f74)⟩, _, _, _, ⟨(fun h_ => h_), (Ext.cell hB f75)⟩, ?_⟩
   have O5 := O5.ext (Ext.drew _)
   have O6 := O6.ext (Ext.drew _)
   have O8 := O8.ext (Ext.drew _)
   have O9 := O9.ext (Ext.drew _)
   have O25 := O25.ext (Ext.drew _)
   have O28 := O28.ext (Ext.drew _)
   have hB := ethen hB (Ext.drew _)
   have hS65 := (Chg.refl (fun _ => False) w63).then (Ext.drew _)
   obtain ⟨hp86, H⟩ := H
   obtain ⟨r84, hr85, H⟩ := callO H
   refine (cllA (spec_l13Step.con hp86 hr85 (R0_0.ext hB) hc0_0 (R80.ext hB) hle82 (R81.ext hB) hle83)).mono ?_
   rintro _ w87 ⟨A89, c90, A91, c92, rfl, P31, P32, e88⟩
   have N8_31 := aN O8 P31
   have N31_25 := P31.apart_old O25.lt
   have N28_31 := O28.dis_new P31 (Nat.le_refl _)
   have N8_32 := aN O8 P32
   have N32_25 := P32.apart_old O25.lt
   have N28_32 := O28.dis_new P32 (Nat.le_refl _)
   have O5 := O5.ext e88
   have O6 := O6.ext e88
   have O8 := O8.ext e88
   have O9 := O9.ext e88
   have O25 := O25.ext e88
   have O31 := P31.mono hB.size
   have O32 := P32.mono hB.size
   have hB := ethen hB e88
   have hS65 := hS65.then e88
   refine ⟨r84.Number, trivial, A89, r84.Frames.length, c90, trivial, A91, r84.Regs.length, c92, trivial, rfl, sameBut_chg hS65, ?_⟩
   obtain ⟨⟨h0_93, h1_94⟩, H⟩ := H
   refine ⟨h0_93, (by first | exact h1_94 | omega | (simp at h1_94 ⊢; omega)), (⟨g25_, z25_, none⟩ : Addr), hA28, ?_⟩
   try dsimp only
   try rw [ha28]
   refine stPlc O25 (j := 0) (cs' := (wC A89 c90 A91 c92 r84)) rfl rfl (Nat.le_of_ble_eq_true rfl) rfl (fun w95 P25 e96 => ?_)
   have O5 := O5.chg e96 (Blk.ne_type O5 O25.b (by decide))
   have O6 := O6.chg e96 (O6.apart_type O25.b (by decide))
   have O8 := O8.chg e96 (O8.apart_type O25.b (by decide))
   have O9 := O9.chg e96 (Blk.ne_type O9 O25.b (by decide))
   have O28 := (O28.ext e88).chg e96 N28_25
   have O31 := O31.chg e96 N31_25
   have O32 := O32.chg e96 N32_25
   have hB := echg hB e96 L25
   have O25 := P25
   have O7 := (HoleW.back O28 hA28 ho28 O25 O31 O32 rfl rfl O31.low O32.low (by decide) (by decide) (by decide) N28_31 N28_32)
   have N7_8 := dis_back (dis_A hA28 (O8.apart_type O25.b (by decide))) N28_8 (N8_31).symm (N8_32).symm
   exact ⟨_, _, _, _, (fun k => G28_ k ∨ InB A89 k ∨ InB A91 k), rfl, H, hB, (by first | exact O9 | (simp only [bC, wC, List.length_set]; exact O9)), O7, (by first | rfl | assumption | omega | (simp; done) | (simp; omega) | (simp; assumption)), N7_8, O8, (by first | rfl | assumption | omega | (simp; done) | (simp; omega) | (simp; assumption)), O5, O6⟩
  refine ⟨_, _, _, (O9.a 0), _, _, _, (O9.a 1), _, _, _, (O9.a 2), _, (O9.a 3), _, (O9.a 4), ?_⟩
  obtain ⟨hp99, H⟩ := H
  obtain ⟨r97, hr98, H⟩ := callO H
  refine (spec_l30Memory.con hp99 hr98 O6.row O6.le (O7.mono (Nat.zero_le _)) (O8.mono (Nat.zero_le _)) N7_8 (fun _ => (fun g h_ => (fun hS_ => hS_.elim (((O7.dis_type O6 (by decide) (by decide) (by decide))).symm g h_) (((Own.apart2_type O6 O8 (by decide))).inb g h_))))).mono ?_
  rintro _ w100 ⟨rfl, Q7, hl102, Q8, hl103, e101⟩
  have O4 := O4.chgS e101 (fun hS_ => hS_.elim N7_4 (N8_4).inb)
  have O5 := O5.chgS e101 (fun hS_ => hS_.elim N7_5 (N8_5).inb)
  have O6 := O6.chgS e101 (fun g h_ => (fun hS_ => hS_.elim (((O7.dis_type O6 (by decide) (by decide) (by decide))).symm g h_) (((Own.apart2_type O6 O8 (by decide))).inb g h_)))
  have O9 := O9.chgS e101 (fun hS_ => hS_.elim N7_9 (N8_9).inb)
  have hB := Chg.ext hB e101 (fun g => (fun hS_ => hS_.elim (O7.lowW g) (O8.low g)))
  have O8 := Q8.up O8
  refine ⟨A30, r25.Code.length, c31, trivial, A32, r25.Warps.length, c33, trivial, A34, r25.Memory.length, c35, trivial, r97.1.Waiting, trivial, r97.1.Phase, trivial, rfl, ?_⟩
  refine stB O9 0 #[(sv A30 r25.Code.length c31), (sv A32 r25.Warps.length c33), (sv A34 r25.Memory.length c35), (iv r97.1.Waiting), (iv r97.1.Phase)] (fun w104 P9 e105 => ?_)
  have O4_ := O4.chg e105 N4_9
  have O5_ := O5.chg e105 N5_9
  have O6_ := O6.chg e105 N6_9
  have O7 := (Q7.up O7).chg e105 N7_9
  have O8_ := O8.chg e105 N8_9
  have O10 := (O10.chgS e101 (fun hS_ => hS_.elim N7_10 (N8_10).inb)).chg e105 (N9_10).symm
  have O4 := O4_
  have O5 := O5_
  have O6 := O6_
  have O8 := O8_
  have hB := echg hB e105 L9
  have O9 := P9
  obtain ⟨K152, hKK152, H⟩ := joinP_out H
  refine ⟨fun z_ w_ => ∃ (i106 i107 : Int), z_ = (()) ∧ K152 (i106, i107, ()) ∧ Ext w w_ ∧ Blk w_ g9_ 33 #[(sv A30 r25.Code.length c31), (sv A32 r25.Warps.length c33), (sv A34 r25.Memory.length c35), (iv i106), (iv i107)] ∧ Blk w_ g4_ 33 (bC A0_0 c0_0 A0_1 c0_1 A0_2 c0_2 s0) ∧ Blk w_ g5_ 33 zC ∧ Own el84 w_ w.heap.size A30 c31 r25.Code ∧ OwnW 52 el91 el3 w_ w.heap.size F36 A32 c33 r97.2.1 ∧ Own el3 w_ w.heap.size A34 c35 r97.2.2, ?_, ?_⟩
  ·refine ⟨_, (O10.a 0), ?_⟩
   refine brc H (fun h H => ?_) fun h H => ?_
   ·have O9 := O9.ext (Ext.drew _)
    have hB := ethen hB (Ext.drew _)
    obtain ⟨hc111, H⟩ := H
    refine ⟨hc111, ?_⟩
    refine and_t ?_
    refine ⟨_, (O9.a 3), ?_⟩
    refine and_t ?_
    refine stBlk O9 (o := 3) (cs' := #[(sv A30 r25.Code.length c31), (sv A32 r25.Warps.length c33), (sv A34 r25.Memory.length c35), (iv (bitOr .i64 r97.1.Waiting (wrap .i64 (1 * 2 ^ (min (x1.toNat) (IntKind.bits .i64)))))), (iv r97.1.Phase)]) rfl rfl (Nat.le_of_ble_eq_true rfl) rfl (fun w112 O9 e113 => ?_)
    have O4 := (O4.ext (Ext.drew _)).chg e113 N4_9
    have O5 := (O5.ext (Ext.drew _)).chg e113 N5_9
    have O6 := (O6.ext (Ext.drew _)).chg e113 N6_9
    have O7 := (O7.ext (Ext.drew _)).chg e113 N7_9
    have O8 := (O8.ext (Ext.drew _)).chg e113 N8_9
    have hB := echg hB e113 L9
    exact ⟨_, _, rfl, H, hB, (by first | exact O9 | (simp only [bC, wC, List.length_set, hl102, hl103]; exact O9)), O4, O5, O6, O7, O8⟩
   exact ⟨_, _, rfl, H, hB, (by first | exact O9 | (simp only [bC, wC, List.length_set, hl102, hl103]; exact O9)), O4, O5, O6, O7, O8⟩
  rintro _ w109 ⟨i106, i107, rfl, H, hB, O9, O4, O5, O6, O7, O8⟩
  have H := hKK152 _ H
  try dsimp only at H ⊢
  refine ⟨_, _, _, (O9.a 1), ?_⟩
  obtain ⟨⟨h0_115, h1_116⟩, H⟩ := H
  obtain ⟨g33_, o33_, z33_, A34_, c34_, A35_, c35_, R33_, G36_, hA36, ha36, ho36, O33, O34, O35, O36, hF36, N36_34, N36_35, N36_33, L33⟩ := OwnW.focus O7 h0_115 h1_116 (by decide) (by decide) (by decide)
  have N36_8 := dis_sub N7_8 (hole_sub hF36)
  refine ⟨h0_115, (by first | exact h1_116 | omega | (simp at h1_116 ⊢; omega)), (⟨g33_, z33_, none⟩ : Addr), hA36, ?_⟩
  try dsimp only
  try rw [ha36]
  refine ⟨_, _, _, (O33.a 1), (fun _ => False), _, _, _, noM (O9.a 1), ?_⟩
  obtain ⟨⟨h0_118, h1_119⟩, H⟩ := H
  refine ⟨h0_118, (by first | exact h1_119 | omega | (simp at h1_119 ⊢; omega)), (⟨g33_, z33_, none⟩ : Addr), hA36, ?_⟩
  try dsimp only
  try rw [ha36]
  refine ⟨_, _, _, noM (O33.a 1), _, _, _, noM (O9.a 1), ?_⟩
  obtain ⟨⟨h0_120, h1_121⟩, H⟩ := H
  refine ⟨h0_120, (by first | exact h1_121 | omega | (simp at h1_121 ⊢; omega)), (⟨g33_, z33_, none⟩ : Addr), hA36, ?_⟩
  try dsimp only
  try rw [ha36]
  refine ⟨_, _, _, noM (O33.a 1), ?_⟩
  obtain ⟨⟨h0_125, h1_126⟩, H⟩ := H
  obtain ⟨a123, ha124, hat122⟩ := Row.at O34.row h0_125 h1_126
  refine ⟨h0_125, (by first | exact h1_126 | omega | (simp at h1_126 ⊢; omega)), a123, ha124, _, ⟨(fun h_ => h_), (hat122 0 _ rfl)⟩, ?_⟩
  obtain ⟨⟨h0_130, h1_131⟩, H⟩ := H
  obtain ⟨a128, ha129, hat127⟩ := Row.at O34.row h0_130 h1_131
  refine ⟨h0_130, (by first | exact h1_131 | omega | (simp at h1_131 ⊢; omega)), a128, ha129, ?_⟩
  have O4 := O4.ext (Ext.drew _)
  have O5 := O5.ext (Ext.drew _)
  have O6 := O6.ext (Ext.drew _)
  have O8 := O8.ext (Ext.drew _)
  have O9 := O9.ext (Ext.drew _)
  have O33 := O33.ext (Ext.drew _)
  have O34 := O34.ext (Ext.drew _)
  have O35 := O35.ext (Ext.drew _)
  have O36 := O36.ext (Ext.drew _)
  have hB := ethen hB (Ext.drew _)
  refine Own.stA O34 ha129 h0_130 h1_131 0 (⟨(wrap .i64 ((rd ((rd r97.2.1 x1).Frames) (wrap .i64 (((rd r97.2.1 x1).Frames.length : Int) - 1))).Pc + 1)), (rd ((rd r97.2.1 x1).Frames) (wrap .i64 (((rd r97.2.1 x1).Frames.length : Int) - 1))).Stop, (rd ((rd r97.2.1 x1).Frames) (wrap .i64 (((rd r97.2.1 x1).Frames.length : Int) - 1))).Mask⟩ : D.Frame) (fun w132 P34 e133 hb134 => ?_)
  have O4_ := O4.chg e133 (fun h_ => ((O34.apart_type O4 (by decide))) _ ha129 h_.symm)
  have O5_ := O5.chg e133 (fun h_ => ((O34.apart_type O5 (by decide))) _ ha129 h_.symm)
  have O6_ := O6.chg e133 (((Own.apart2_type O6 O34 (by decide))).left ha129)
  have O8_ := O8.chg e133 (((Own.apart2_type O8 O34 (by decide))).left ha129)
  have O9_ := O9.chg e133 (fun h_ => ((O34.apart_type O9 (by decide))) _ ha129 h_.symm)
  have O33 := O33.chg e133 (fun h_ => ((O34.apart_type O33.b (by decide))) _ ha129 h_.symm)
  have O35_ := O35.chg e133 (((Own.apart2_type O35 O34 (by decide))).left ha129)
  have O36_ := O36.chg e133 (fun h_ => N36_34 _ h_ ⟨_, ha129, rfl⟩)
  have O4 := O4_
  have O9 := O9_
  refine ⟨(fun _ => False), _, _, _, noM (O9.a 1), _, _, _, noM (O4.a 0), _, _, _, noM (O9.a 1), ?_⟩
  obtain ⟨⟨h0_136, h1_137⟩, H⟩ := H
  refine ⟨h0_136, (by first | exact h1_137 | omega | (simp at h1_137 ⊢; omega)), (⟨g33_, z33_, none⟩ : Addr), hA36, ?_⟩
  try dsimp only
  try rw [ha36]
  refine ⟨_, noM (O33.a 0), _, _, _, noM (O33.a 1), _, _, _, noM (O33.a 2), ?_⟩
  have O5 := O5_.ext (Ext.drew _)
  have O6 := O6_.ext (Ext.drew _)
  have O8 := O8_.ext (Ext.drew _)
  have O9 := O9.ext (Ext.drew _)
  have O33 := O33.ext (Ext.drew _)
  have O34 := P34.ext (Ext.drew _)
  have O35 := O35_.ext (Ext.drew _)
  have O36 := O36_.ext (Ext.drew _)
  have hB := ethen (echg hB e133 hb134) (Ext.drew _)
  have hS135 := (Chg.refl (fun _ => False) w132).then (Ext.drew _)
  obtain ⟨hp140, H⟩ := H
  obtain ⟨r138, hr139, H⟩ := callO H
  refine (cllA (spec_DropFrames.con hp140 hr139 (R0_0.ext hB) hc0_0 O34.row O34.le O35.row O35.le)).mono ?_
  rintro _ w141 ⟨A143, c144, A145, c146, rfl, P37, P38, e142⟩
  have N8_37 := aN O8 P37
  have N37_33 := P37.apart_old O33.lt
  have N36_37 := O36.dis_new P37 (Nat.le_refl _)
  have N8_38 := aN O8 P38
  have N38_33 := P38.apart_old O33.lt
  have N36_38 := O36.dis_new P38 (Nat.le_refl _)
  have O5 := O5.ext e142
  have O6 := O6.ext e142
  have O8 := O8.ext e142
  have O9 := O9.ext e142
  have O33 := O33.ext e142
  have O37 := P37.mono hB.size
  have O38 := P38.mono hB.size
  have hB := ethen hB e142
  have hS135 := hS135.then e142
  refine ⟨r138.Number, trivial, A143, r138.Frames.length, c144, trivial, A145, r138.Regs.length, c146, trivial, rfl, sameBut_chg hS135, ?_⟩
  obtain ⟨⟨h0_147, h1_148⟩, H⟩ := H
  refine ⟨h0_147, (by first | exact h1_148 | omega | (simp at h1_148 ⊢; omega)), (⟨g33_, z33_, none⟩ : Addr), hA36, ?_⟩
  try dsimp only
  try rw [ha36]
  refine stPlc O33 (j := 0) (cs' := (wC A143 c144 A145 c146 r138)) rfl rfl (Nat.le_of_ble_eq_true rfl) rfl (fun w149 P33 e150 => ?_)
  have O5 := O5.chg e150 (Blk.ne_type O5 O33.b (by decide))
  have O6 := O6.chg e150 (O6.apart_type O33.b (by decide))
  have O8 := O8.chg e150 (O8.apart_type O33.b (by decide))
  have O9 := O9.chg e150 (Blk.ne_type O9 O33.b (by decide))
  have O36 := (O36.ext e142).chg e150 N36_33
  have O37 := O37.chg e150 N37_33
  have O38 := O38.chg e150 N38_33
  have hB := echg hB e150 L33
  have O33 := P33
  have O7 := (HoleW.back O36 hA36 ho36 O33 O37 O38 rfl rfl O37.low O38.low (by decide) (by decide) (by decide) N36_37 N36_38)
  have N7_8 := dis_back (dis_A hA36 (O8.apart_type O33.b (by decide))) N36_8 (N8_37).symm (N8_38).symm
  exact ⟨i106, i107, _, _, (fun k => G36_ k ∨ InB A143 k ∨ InB A145 k), rfl, H, hB, (by first | exact O9 | (simp only [bC, wC, List.length_set, hl103]; exact O9)), O7, (by first | rfl | assumption | omega | (simp; done) | (simp; omega) | (simp; assumption)), N7_8, O8, (by first | rfl | assumption | omega | (simp; done) | (simp; omega) | (simp; assumption)), O5, O6⟩
 rintro _ w58 ⟨i50, i51, xs52, xs55, F53, rfl, H, hB, O9, O7, hn54, N7_8, O8, hn56, O5, O6⟩
 have H := hKK169 _ H
 try dsimp only at H ⊢
 refine ⟨_, _, _, (O9.a 0), _, _, _, (O9.a 1), _, _, _, (O9.a 2), _, (O9.a 3), _, (O9.a 4), ?_⟩
 obtain ⟨hp156, H⟩ := H
 obtain ⟨r154, hr155, H⟩ := callO H
 refine (cllArgs (by first | (simp only [bC, wC, List.length_set, ← hn54, ← hn56]; done) | (simp; done)) (spec_l30All.con hp156 hr155 O6.row O6.le O7.row O7.le O8.row O8.le)).mono ?_
 rintro _ w157 ⟨rfl, e158⟩
 have O5 := O5.ext e158
 have O6 := O6.ext e158
 have O7 := O7.ext e158
 have O8 := O8.ext e158
 have O9 := O9.ext e158
 have hB := ethen hB e158
 refine ⟨r154, rfl, ?_⟩
 refine brc H (fun h H => ?_) fun h H => ?_
 ·refine stB O9 3 #[(sv A30 r25.Code.length c31), (sv A32 r25.Warps.length c33), (sv A34 r25.Memory.length c35), (iv 0), (iv i51)] (fun w159 P9 e160 => ?_)
  have O5_ := O5.chg e160 N5_9
  have O6_ := O6.chg e160 N6_9
  have O7_ := O7.chg e160 (O7.dis_blk O9 (by decide) (by decide) (by decide))
  have O8_ := O8.chg e160 N8_9
  have O6 := O6_
  have O7 := O7_
  have O8 := O8_
  have hB := echg hB e160 L9
  have O9 := P9
  refine ⟨_, (O9.a 4), ?_⟩
  refine stB O9 4 #[(sv A30 r25.Code.length c31), (sv A32 r25.Warps.length c33), (sv A34 r25.Memory.length c35), (iv 0), (iv (wrap .i64 (i51 + 1)))] (fun w161 P9 e162 => ?_)
  have O5 := O5_.chg e162 N5_9
  have O6_ := O6.chg e162 N6_9
  have O7_ := O7.chg e162 (O7.dis_blk O9 (by decide) (by decide) (by decide))
  have O8_ := O8.chg e162 N8_9
  have O7 := O7_
  have hB := echg hB e162 L9
  have O9 := P9
  refine ⟨_, _, _, (O9.a 0), _, _, _, (O9.a 1), _, _, _, (O9.a 2), _, (O9.a 3), _, (O9.a 4), ?_⟩
  refine stB O5 0 #[(sv A30 r25.Code.length c31), (sv A32 r25.Warps.length c33), (sv A34 r25.Memory.length c35), (iv 0), (iv (wrap .i64 (i51 + 1)))] (fun w163 P5 e164 => ?_)
  have O6 := O6_.chg e164 N6_5
  have O7 := O7.chg e164 (O7.dis_blk O5 (by decide) (by decide) (by decide))
  have O8 := O8_.chg e164 N8_5
  have hB := echg hB e164 L5
  have O5 := P5
  refine ⟨_, _, _, (O5.a 0), _, _, _, (O5.a 1), _, _, _, (O5.a 2), _, (O5.a 3), _, (O5.a 4), ?_⟩
  cases hr.trans H.symm
  exact ⟨A30, c31, A32, c33, F53, A34, c35, (by first | rfl | (rw [hn54, hn56]; done) | (simp; done) | (simp; omega) | (simp [*]; done)), (by first | exact O6 | (simp only [bC, wC, List.length_set]; exact O6) | (rw [← hn54, ← hn56]; exact O6)), (by first | exact O7 | (simp only [bC, wC, List.length_set]; exact O7) | (rw [← hn54, ← hn56]; exact O7)), (by first | exact O8 | (simp only [bC, wC, List.length_set]; exact O8) | (rw [← hn54, ← hn56]; exact O8)), N7_8, hB⟩
 refine ⟨_, _, _, (O9.a 0), _, _, _, (O9.a 1), _, _, _, (O9.a 2), _, (O9.a 3), _, (O9.a 4), ?_⟩
 refine stB O5 0 #[(sv A30 r25.Code.length c31), (sv A32 r25.Warps.length c33), (sv A34 r25.Memory.length c35), (iv i50), (iv i51)] (fun w165 P5 e166 => ?_)
 have O6 := O6.chg e166 N6_5
 have O7 := O7.chg e166 (O7.dis_blk O5 (by decide) (by decide) (by decide))
 have O8 := O8.chg e166 N8_5
 have hB := echg hB e166 L5
 have O5 := P5
 refine ⟨_, _, _, (O5.a 0), _, _, _, (O5.a 1), _, _, _, (O5.a 2), _, (O5.a 3), _, (O5.a 4), ?_⟩
 cases hr.trans H.symm
 exact ⟨A30, c31, A32, c33, F53, A34, c35, (by first | rfl | (rw [hn54, hn56]; done) | (simp; done) | (simp; omega) | (simp [*]; done)), (by first | exact O6 | (simp only [bC, wC, List.length_set]; exact O6) | (rw [← hn54, ← hn56]; exact O6)), (by first | exact O7 | (simp only [bC, wC, List.length_set]; exact O7) | (rw [← hn54, ← hn56]; exact O7)), (by first | exact O8 | (simp only [bC, wC, List.length_set]; exact O8) | (rw [← hn54, ← hn56]; exact O8)), N7_8, hB⟩
def spec_l32Run.vc (A0_0 : OA) (n0_0 c0_0 : Nat) (A0_1 : OA) (n0_1 c0_1 : Nat) (A0_2 : OA) (n0_2 c0_2 : Nat) (x0_3 x0_4 x1 x2 : Int) (w : World) (K : VK) : Prop :=
  newK w (.cells (vB A0_0 n0_0 c0_0 A0_1 n0_1 c0_1 A0_2 n0_2 c0_2 x0_3 x0_4) 33) fun g21 w22 => newK w22 (.cells zC 33) fun g23 w24 => LoopT (σ := Int × Unit) (fun z25 w26 next27 => bcase (decide (z25.1 < x2)) (ldB w26 (bx g21) fun A28 n29 c30 A31 n32 c33 A34 n35 c36 n37 n38 => Cl 163 #[(.agg (vB A28 n29 c30 A31 n32 c33 A34 n35 c36 n37 n38)), (iv (wrap .i64 (z25.1 * x1)))] w26 fun v39 w40 => (∃ (n41 : Int), v39 = (iv n41) ∧ bcase (decide (n41 < 0)) (ldB w40 (bx g21) fun A42 n43 c44 A45 n46 c47 A48 n49 c50 n51 n52 => stCells (bx g23) [(sv A42 n43 c44), (sv A45 n46 c47), (sv A48 n49 c50), (iv n51), (iv n52)] 0 w40 fun w53 => ldB w53 (bx g23) fun A54 n55 c56 A57 n58 c59 A60 n61 c62 n63 n64 => K (.agg (vB A54 n55 c56 A57 n58 c59 A60 n61 c62 n63 n64)) w53) (ldI w40 (((bx g21).add 4).add 0) fun n65 => bcase (n65 == 100000) (ldB w40 (bx g21) fun A66 n67 c68 A69 n70 c71 A72 n73 c74 n75 n76 => stCells (bx g23) [(sv A66 n67 c68), (sv A69 n70 c71), (sv A72 n73 c74), (iv n75), (iv n76)] 0 w40 fun w77 => ldB w77 (bx g23) fun A78 n79 c80 A81 n82 c83 A84 n85 c86 n87 n88 => K (.agg (vB A78 n79 c80 A81 n82 c83 A84 n85 c86 n87 n88)) w77) (ldB w40 (bx g21) fun A89 n90 c91 A92 n93 c94 A95 n96 c97 n98 n99 => Cl 164 #[(.agg (vB A89 n90 c91 A92 n93 c94 A95 n96 c97 n98 n99)), (iv n41)] w40 fun v100 w101 => (∃ (A102 : OA) (n103 c104 : Nat), True ∧ ∃ (A105 : OA) (n106 c107 : Nat), True ∧ ∃ (A108 : OA) (n109 c110 : Nat), True ∧ ∃ (n111 : Int), True ∧ ∃ (n112 : Int), True ∧ v100 = (.agg (vB A102 n103 c104 A105 n106 c107 A108 n109 c110 n111 n112)) ∧ stCells (bx g21) [(sv A102 n103 c104), (sv A105 n106 c107), (sv A108 n109 c110), (iv n111), (iv n112)] 0 w101 fun w113 => next27 ((wrap .i64 (z25.1 + 1)), ()) w113))))) (ldB w26 (bx g21) fun A114 n115 c116 A117 n118 c119 A120 n121 c122 n123 n124 => stCells (bx g23) [(sv A114 n115 c116), (sv A117 n118 c119), (sv A120 n121 c122), (iv n123), (iv n124)] 0 w26 fun w125 => ldB w125 (bx g23) fun A126 n127 c128 A129 n130 c131 A132 n133 c134 n135 n136 => K (.agg (vB A126 n127 c128 A129 n130 c131 A132 n133 c134 n135 n136)) w125)) (0, ()) w24

def spec_l32Run.ann : Ann := (.seq .l (.seq (.seq .l (.one (.loop [(7, .int .i64)] (.seq (.seq .l (.two .l .l)) (.seq (.one (.seq .l (.seq (.seq .l (.two .l .l)) .l))) .l))))) (.seq .l .l)))

theorem spec_l32Run.con {s0 r : D.Block} {A0_0 A0_1 A0_2 : OA} {c0_0 B_ c0_1 c0_2 : Nat} {F0_1 : Nat → Prop} {x1 x2 : Int} {w : World} (hp : M.spec_l32Run_pre s0 x1 x2) (hr : r = M.spec_l32Run s0 x1 x2) (O1 : Own el84 w B_ A0_0 c0_0 s0.Code) (hB_ : B_ ≤ w.heap.size) (O2 : OwnW 52 el91 el3 w B_ F0_1 A0_1 c0_1 s0.Warps) (O3 : Own el3 w B_ A0_2 c0_2 s0.Memory) (N2_3 : Dis (InW A0_1 F0_1) (InB A0_2)) :
    Cl 118 #[(.agg (bC A0_0 c0_0 A0_1 c0_1 A0_2 c0_2 s0)), (iv x1), (iv x2)] w (fun v_ w_ => ∃ (A0_ : OA) (c0_ : Nat) (A1_ : OA) (c1_ : Nat) (F1_ : Nat → Prop) (A2_ : OA) (c2_ : Nat), v_ = (.agg (bC A0_ c0_ A1_ c1_ A2_ c2_ r)) ∧ Own el84 w_ B_ A0_ c0_ r.Code ∧ OwnW 52 el91 el3 w_ B_ F1_ A1_ c1_ r.Warps ∧ Own el3 w_ B_ A2_ c2_ r.Memory ∧ Dis (InW A1_ F1_) (InB A2_) ∧ Ext w w_) := by
 have H := wp.spec_l32Run.math s0 x1 x2 hp
 have hB := Ext.refl w
 refine begK mixed Tryz.f118 ann (vc A0_0 s0.Code.length c0_0 A0_1 s0.Warps.length c0_1 A0_2 s0.Memory.length c0_2 s0.Waiting s0.Phase x1 x2) ?_
 unfold vc
 unfold wp.spec_l32Run at H
 refine newBlk (fun g4_ w21 L4 P4 e22 => ?_)
 have O4 := P4
 have L4 := Nat.le_trans hB.size L4
 have hB := ethen hB e22
 refine newBlk (fun g5_ w23 L5 P5 e24 => ?_)
 have N4_5 := O4.ne L5
 have O1 := (O1.ext e22).ext e24
 have O2 := (O2.ext e22).ext e24
 have O3 := (O3.ext e22).ext e24
 have O4 := O4.ext e24
 have O5 := P5
 have L5 := Nat.le_trans hB.size L5
 have hB := ethen hB e24
 obtain ⟨J99, ⟨m136, hJ135⟩, hS100⟩ := H
 refine ⟨fun m_ z_ w_ => ∃ (i85 : Int) (xs86 : List D.Ins) (xs90 : List D.Warp) (xs93 : List Int) (i96 i97 : Int) (A87 : OA) (c88 : Nat) (A91 : OA) (c92 : Nat) (F89 : Nat → Prop) (A94 : OA) (c95 : Nat), z_ = (i85, ()) ∧ J99 m_ (i85, xs86, xs90, xs93, i96, i97, ()) ∧ Ext w w_ ∧ Blk w_ g4_ 33 #[(sv A87 xs86.length c88), (sv A91 xs90.length c92), (sv A94 xs93.length c95), (iv i96), (iv i97)] ∧ Own el84 w_ B_ A87 c88 xs86 ∧ OwnW 52 el91 el3 w_ B_ F89 A91 c92 xs90 ∧ Own el3 w_ B_ A94 c95 xs93 ∧ Blk w_ g5_ 33 zC ∧ Dis (InW A91 F89) (InB A94), ⟨m136, 0, s0.Code, s0.Warps, s0.Memory, s0.Waiting, s0.Phase, A0_0, c0_0, A0_1, c0_1, F0_1, A0_2, c0_2, rfl, hJ135, hB, O4, O1, O2, O3, O5, N2_3⟩, ?_⟩
 rintro m98 _ w102 ⟨i85, xs86, xs90, xs93, i96, i97, A87, c88, A91, c92, F89, A94, c95, rfl, hJ137, hB, O4, O12, O13, O14, O5, N13_14⟩
 have H := hS100 m98 _ hJ137
 clear hS100 hJ137
 try dsimp only at H ⊢
 refine brc H (fun h H => ?_) fun h H => ?_
 ·refine ⟨_, _, _, (O4.a 0), _, _, _, (O4.a 1), _, _, _, (O4.a 2), _, (O4.a 3), _, (O4.a 4), ?_⟩
  obtain ⟨hp105, H⟩ := H
  obtain ⟨r103, hr104, H⟩ := callO H
  refine (spec_l32Pick.con hp105 hr104 O12.row O12.le O13.row O13.le O14.row O14.le).mono ?_
  rintro _ w106 ⟨rfl, e107⟩
  have O4 := O4.ext e107
  have O5 := O5.ext e107
  have O12 := O12.ext e107
  have O13 := O13.ext e107
  have O14 := O14.ext e107
  have hB := ethen hB e107
  refine ⟨r103, rfl, ?_⟩
  refine brc H (fun h H => ?_) fun h H => ?_
  ·refine ⟨_, _, _, (O4.a 0), _, _, _, (O4.a 1), _, _, _, (O4.a 2), _, (O4.a 3), _, (O4.a 4), ?_⟩
   refine stB O5 0 #[(sv A87 xs86.length c88), (sv A91 xs90.length c92), (sv A94 xs93.length c95), (iv i96), (iv i97)] (fun w108 P5 e109 => ?_)
   have O12 := O12.chg e109 (O12.apart_type O5 (by decide))
   have O13 := O13.chg e109 (O13.dis_blk O5 (by decide) (by decide) (by decide))
   have O14 := O14.chg e109 (O14.apart_type O5 (by decide))
   have hB := echg hB e109 L5
   have O5 := P5
   refine ⟨_, _, _, (O5.a 0), _, _, _, (O5.a 1), _, _, _, (O5.a 2), _, (O5.a 3), _, (O5.a 4), ?_⟩
   cases hr.trans H.symm
   exact ⟨A87, c88, A91, c92, F89, A94, c95, rfl, O12, O13, O14, N13_14, hB⟩
  refine ⟨_, (O4.a 4), ?_⟩
  refine brc H (fun h H => ?_) fun h H => ?_
  ·refine ⟨_, _, _, (O4.a 0), _, _, _, (O4.a 1), _, _, _, (O4.a 2), _, (O4.a 3), _, (O4.a 4), ?_⟩
   refine stB O5 0 #[(sv A87 xs86.length c88), (sv A91 xs90.length c92), (sv A94 xs93.length c95), (iv i96), (iv i97)] (fun w110 P5 e111 => ?_)
   have O12 := O12.chg e111 (O12.apart_type O5 (by decide))
   have O13 := O13.chg e111 (O13.dis_blk O5 (by decide) (by decide) (by decide))
   have O14 := O14.chg e111 (O14.apart_type O5 (by decide))
   have hB := echg hB e111 L5
   have O5 := P5
   refine ⟨_, _, _, (O5.a 0), _, _, _, (O5.a 1), _, _, _, (O5.a 2), _, (O5.a 3), _, (O5.a 4), ?_⟩
   cases hr.trans H.symm
   exact ⟨A87, c88, A91, c92, F89, A94, c95, rfl, O12, O13, O14, N13_14, hB⟩
  refine ⟨_, _, _, (O4.a 0), _, _, _, (O4.a 1), _, _, _, (O4.a 2), _, (O4.a 3), _, (O4.a 4), ?_⟩
  obtain ⟨hp114, H⟩ := H
  obtain ⟨r112, hr113, H⟩ := callO H
  refine (spec_l30Step.con hp114 hr113 O12.row O12.le O13.row O13.le O14.row O14.le).mono ?_
  rintro _ w115 ⟨A117, c118, A119, c120, F123, A121, c122, rfl, P15, P16, P17, N16_17, e116⟩
  have N15_4 := P15.apart_old O4.lt
  have N16_4 := P16.new_disbox O4 (Nat.le_refl _)
  have N17_4 := P17.apart_old O4.lt
  have O4 := O4.ext e116
  have O15 := P15.mono hB.size
  have O16 := P16.mono hB.size
  have O17 := P17.mono hB.size
  have hB := ethen hB e116
  refine ⟨A117, r112.Code.length, c118, trivial, A119, r112.Warps.length, c120, trivial, A121, r112.Memory.length, c122, trivial, r112.Waiting, trivial, r112.Phase, trivial, rfl, ?_⟩
  refine stB O4 0 (bC A117 c118 A119 c120 A121 c122 r112) (fun w124 P4 e125 => ?_)
  have O5 := (O5.ext e116).chg e125 (N4_5).symm
  have O15 := O15.chg e125 N15_4
  have O16 := O16.chg e125 N16_4
  have O17 := O17.chg e125 N17_4
  have hB := echg hB e125 L4
  have O4 := P4
  obtain ⟨m126, hm127, hJ128⟩ := H
  exact ⟨m126, hm127, _, _, _, _, _, _, A117, c118, A119, c120, F123, A121, c122, rfl, hJ128, hB, O4, (O15.mono hB_), (O16.mono hB_), (O17.mono hB_), O5, N16_17⟩
 refine ⟨_, _, _, (O4.a 0), _, _, _, (O4.a 1), _, _, _, (O4.a 2), _, (O4.a 3), _, (O4.a 4), ?_⟩
 refine stB O5 0 #[(sv A87 xs86.length c88), (sv A91 xs90.length c92), (sv A94 xs93.length c95), (iv i96), (iv i97)] (fun w131 P5 e132 => ?_)
 have O12 := O12.chg e132 (O12.apart_type O5 (by decide))
 have O13 := O13.chg e132 (O13.dis_blk O5 (by decide) (by decide) (by decide))
 have O14 := O14.chg e132 (O14.apart_type O5 (by decide))
 have hB := echg hB e132 L5
 have O5 := P5
 refine ⟨_, _, _, (O5.a 0), _, _, _, (O5.a 1), _, _, _, (O5.a 2), _, (O5.a 3), _, (O5.a 4), ?_⟩
 cases hr.trans H.symm
 exact ⟨A87, c88, A91, c92, F89, A94, c95, rfl, O12, O13, O14, N13_14, hB⟩
def spec_l32Block.vc (p0 : Addr) (w : World) (K : VK) : Prop :=
  newK w (.cells zC 33) fun g21 w22 => Cl 85 #[(.pointer (some p0))] w22 fun v23 w24 => (∃ (A25 : OA) (n26 c27 : Nat), v23 = (sv A25 n26 c27) ∧ Cl 67 #[(.pointer (some p0)), (iv 3)] w24 fun v28 w29 => (∃ (n30 : Int), v28 = (iv n30) ∧ Cl 115 #[(sv A25 n26 c27), (iv (wrap .i64 (1 + n30)))] w29 fun v31 w32 => (∃ u33 : Value, (∃ (A34 : OA) (n35 c36 : Nat), True ∧ ∃ (A37 : OA) (n38 c39 : Nat), True ∧ ∃ (A40 : OA) (n41 c42 : Nat), True ∧ ∃ (n43 : Int), True ∧ ∃ (n44 : Int), True ∧ u33 = (.agg (vB A34 n35 c36 A37 n38 c39 A40 n41 c42 n43 n44)) ∧ ∃ u45 : Value, (∃ (b46 : Bool), u45 = (.bool b46) ∧ v31 = (.tuple #[(.agg (vB A34 n35 c36 A37 n38 c39 A40 n41 c42 n43 n44)), (.bool b46)]) ∧ newK w32 (.cells zC 33) fun g47 w48 => stCells (bx g47) [(sv A34 n35 c36), (sv A37 n38 c39), (sv A40 n41 c42), (iv n43), (iv n44)] 0 w48 fun w49 => JoinT (σ := Unit) (fun J50 => Cl 116 #[(.pointer (some p0)), (iv 3)] w49 fun v51 w52 => (∃ (b53 : Bool), v51 = (.bool b53) ∧ bcase b53 (Cl 117 #[(.pointer (some p0)), (iv 32)] w52 fun v54 w55 => (∃ (A56 : OA) (n57 c58 : Nat), v54 = (sv A56 n57 c58) ∧ stCells ((bx g47).add 2) [(sv A56 n57 c58)] 0 w55 fun w59 => J50 () w59)) (J50 () w52))) fun z60 w61 => (∃ M62 : Nat → Prop, ldSM M62 w61 (bx g47) 0 fun A63 n64 c65 => ldSM M62 w61 (bx g47) 1 fun A66 n67 c68 => ldSM M62 w61 (bx g47) 2 fun A69 n70 c71 => ldIM M62 w61 (bx g47) 3 fun n72 => ldIM M62 w61 (bx g47) 4 fun n73 => Cl 67 #[(.pointer (some p0)), (iv 4)] w61.drew fun v74 w75 => (∃ (n76 : Int), v74 = (iv n76) ∧ SameBut M62 w61 w75 ∧ Cl 67 #[(.pointer (some p0)), (iv 40)] w75 fun v77 w78 => (∃ (n79 : Int), v77 = (iv n79) ∧ SameBut M62 w61 w78 ∧ Cl 118 #[(.agg (vB A63 n64 c65 A66 n67 c68 A69 n70 c71 n72 n73)), (iv n76), (iv n79)] w78 fun v80 w81 => (∃ (A82 : OA) (n83 c84 : Nat), True ∧ ∃ (A85 : OA) (n86 c87 : Nat), True ∧ ∃ (A88 : OA) (n89 c90 : Nat), True ∧ ∃ (n91 : Int), True ∧ ∃ (n92 : Int), True ∧ v80 = (.agg (vB A82 n83 c84 A85 n86 c87 A88 n89 c90 n91 n92)) ∧ SameBut M62 w61 w81 ∧ stCells (bx g21) [(sv A82 n83 c84), (sv A85 n86 c87), (sv A88 n89 c90), (iv n91), (iv n92)] 0 w81 fun w93 => ldB w93 (bx g21) fun A94 n95 c96 A97 n98 c99 A100 n101 c102 n103 n104 => K (.agg (vB A94 n95 c96 A97 n98 c99 A100 n101 c102 n103 n104)) w93)))))))))

def spec_l32Block.ann : Ann := (.seq .l (.seq .l (.cut [] (.seq .l (.two .l .l)) (.seq .l .l))))

theorem spec_l32Block.con {s0 : D.Cur} {g1_ c0_0 : Nat} {A0_0 : OA} {r : D.Block × D.Cur} {w : World} (hp : M.spec_l32Block_pre s0) (hr : r = M.spec_l32Block s0) (O1 : Blk w g1_ 129 #[(sv A0_0 s0.b.length c0_0), (iv s0.i), (iv s0.h)]) (R0_0 : Row el5 w A0_0 s0.b) (hc0_0 : s0.b.length ≤ c0_0) (D0_0 : s0.b ≠ [] → ∀ g, InB A0_0 g → ¬ (fun k_ => k_ = g1_) g) :
    Cl 58 #[(.pointer (some (bx g1_)))] w (fun v_ w_ => ∃ (A0_ : OA) (c0_ : Nat) (A1_ : OA) (c1_ : Nat) (F1_ : Nat → Prop) (A2_ : OA) (c2_ : Nat), v_ = (.agg (bC A0_ c0_ A1_ c1_ A2_ c2_ r.1)) ∧ Own el84 w_ w.heap.size A0_ c0_ r.1.Code ∧ OwnW 52 el91 el3 w_ w.heap.size F1_ A1_ c1_ r.1.Warps ∧ Own el3 w_ w.heap.size A2_ c2_ r.1.Memory ∧ Dis (InW A1_ F1_) (InB A2_) ∧ Blk w_ g1_ 129 #[(sv A0_0 r.2.b.length c0_0), (iv r.2.i), (iv r.2.h)] ∧ r.2.b = s0.b ∧ Chg (fun k_ => k_ = g1_) w w_) := by
 have H := wp.spec_l32Block.math s0 hp
 have hB := Chg.refl (fun k_ => k_ = g1_) w
 refine begK mixed Tryz.f58 ann (vc (bx g1_)) ?_
 unfold vc
 unfold wp.spec_l32Block at H
 refine newBlk (fun g3_ w21 L3 P3 e22 => ?_)
 have N1_3 := O1.ne L3
 have O1 := O1.ext e22
 have L3 := Nat.le_trans hB.size L3
 have hB := hB.then e22
 obtain ⟨hp25, H⟩ := H
 obtain ⟨r23, hr24, H⟩ := callO H
 refine (spec_l29Program.con hp25 hr24 O1 (R0_0.chgS hB D0_0) hc0_0 (fun hx_ => (fun g h_ hS_ => D0_0 hx_ g h_ hS_))).mono ?_
 rintro _ w26 ⟨A28, c29, rfl, P4, Q1, hq30, e27⟩
 simp only [bC, wC, hq30] at Q1
 have N4_1 := P4.apart_old O1.lt
 have O4 := P4.mono hB.size
 have hB := hB.chg e27 (fun g h_ => Or.inr h_)
 have O1 := Q1
 refine ⟨A28, r23.1.length, c29, rfl, ?_⟩
 obtain ⟨hp33, H⟩ := H
 obtain ⟨r31, hr32, H⟩ := callO H
 refine (spec_l01Below.con hp33 hr32 O1 (R0_0.chgS hB D0_0) hc0_0 (fun hx_ => (fun g h_ hS_ => D0_0 hx_ g h_ hS_))).mono ?_
 rintro _ w34 ⟨rfl, Q1, hq36, e35⟩
 simp only [bC, wC, hq36] at Q1
 have O4 := O4.chgS e35 (box_inb N4_1)
 have hB := hB.chg e35 (fun g h_ => Or.inr h_)
 have O1 := Q1
 refine ⟨r31.1, rfl, ?_⟩
 obtain ⟨hp39, H⟩ := H
 obtain ⟨r37, hr38, H⟩ := callO H
 refine (spec_BlockNew.con hp39 hr38 O4.row O4.le).mono ?_
 rintro _ w40 ⟨A42, c43, A44, c45, F48, A46, c47, rfl, P5, P6, P7, N6_7, e41⟩
 have N5_1 := P5.apart_old O1.lt
 have N6_1 := P6.new_disbox O1 (Nat.le_refl _)
 have N7_1 := P7.apart_old O1.lt
 have O1 := O1.ext e41
 have O3 := ((P3.chgS e27 ((N1_3).symm)).chgS e35 ((N1_3).symm)).ext e41
 have O5 := P5.mono hB.size
 have O6 := P6.mono hB.size
 have O7 := P7.mono hB.size
 have hB := hB.then e41
 refine ⟨(.agg (bC A42 c43 A44 c45 A46 c47 r37.1)), A42, r37.1.Code.length, c43, trivial, A44, r37.1.Warps.length, c45, trivial, A46, r37.1.Memory.length, c47, trivial, r37.1.Waiting, trivial, r37.1.Phase, trivial, rfl, (.bool r37.2), r37.2, rfl, rfl, ?_⟩
 refine newBlk (fun g8_ w49 L8 P8 e50 => ?_)
 have N1_8 := O1.ne L8
 have N3_8 := O3.ne L8
 have N5_8 := O5.apart_new L8
 have N6_8 := O6.dis_newbox L8
 have N7_8 := O7.apart_new L8
 have O1 := O1.ext e50
 have O8 := P8
 have L8 := Nat.le_trans hB.size L8
 refine stB O8 0 (bC A42 c43 A44 c45 A46 c47 r37.1) (fun w51 P8 e52 => ?_)
 have O1_ := O1.chg e52 N1_8
 have O3 := (O3.ext e50).chg e52 N3_8
 have O5 := (O5.ext e50).chg e52 N5_8
 have O6 := (O6.ext e50).chg e52 N6_8
 have O7 := (O7.ext e50).chg e52 N7_8
 have O1 := O1_
 have hB := (hB.then e50).chgb e52 (Or.inl L8)
 have O8 := P8
 obtain ⟨K137, hKK137, H⟩ := joinP_out H
 refine ⟨fun z_ w_ => ∃ (i76 i77 : Int) (xs78 : List Int) (i81 i82 : Int) (A79 : OA) (c80 : Nat), z_ = (()) ∧ K137 (i76, i77, xs78, i81, i82, ()) ∧ Chg (fun k_ => k_ = g1_) w w_ ∧ Blk w_ g1_ 129 #[(sv A0_0 s0.b.length c0_0), (iv i76), (iv i77)] ∧ Blk w_ g8_ 33 #[(sv A42 r37.1.Code.length c43), (sv A44 r37.1.Warps.length c45), (sv A79 xs78.length c80), (iv i81), (iv i82)] ∧ Own el3 w_ w.heap.size A79 c80 xs78 ∧ Blk w_ g3_ 33 zC ∧ Own el84 w_ w.heap.size A42 c43 r37.1.Code ∧ OwnW 52 el91 el3 w_ w.heap.size F48 A44 c45 r37.1.Warps ∧ Dis (InW A44 F48) (InB A79), ?_, ?_⟩
 ·obtain ⟨hp88, H⟩ := H
  obtain ⟨r86, hr87, H⟩ := callO H
  refine (spec_l01Once.con hp88 hr87 O1 (R0_0.chgS hB D0_0) hc0_0 (fun hx_ => (fun g h_ hS_ => D0_0 hx_ g h_ hS_))).mono ?_
  rintro _ w89 ⟨rfl, Q1, hq91, e90⟩
  simp only [bC, wC, hq91] at Q1
  have O3 := O3.chgS e90 ((N1_3).symm)
  have O5 := O5.chgS e90 (box_inb N5_1)
  have O6 := O6.kept e90 (ne_dis N6_1)
  have O7 := O7.chgS e90 (box_inb N7_1)
  have O8 := O8.chgS e90 ((N1_8).symm)
  have hB := hB.chg e90 (fun g h_ => Or.inr h_)
  have O1 := Q1
  refine ⟨r86.1, rfl, ?_⟩
  refine brc H (fun h H => ?_) fun h H => ?_
  ·obtain ⟨hp94, H⟩ := H
   obtain ⟨r92, hr93, H⟩ := callO H
   refine (spec_l02Words.con hp94 hr93 O1 (R0_0.chgS hB D0_0) hc0_0 (fun hx_ => (fun g h_ hS_ => D0_0 hx_ g h_ hS_))).mono ?_
   rintro _ w95 ⟨A97, c98, rfl, P13, Q1, hq99, e96⟩
   simp only [bC, wC, hq99] at Q1
   have N6_13 := O6.dis_new P13 (Nat.le_refl _)
   have N13_8 := P13.apart_old O8.lt
   have O8 := O8.chgS e96 ((N1_8).symm)
   have O13 := P13.mono hB.size
   refine ⟨A97, r92.1.length, c98, rfl, ?_⟩
   refine stBlk O8 (o := 2) (cs' := #[(sv A42 r37.1.Code.length c43), (sv A44 r37.1.Warps.length c45), (sv A97 r92.1.length c98), (iv r37.1.Waiting), (iv r37.1.Phase)]) rfl rfl (Nat.le_of_ble_eq_true rfl) rfl (fun w100 O8 e101 => ?_)
   have O1 := Q1.chg e101 N1_8
   have O3 := (O3.chgS e96 ((N1_3).symm)).chg e101 N3_8
   have O5 := (O5.chgS e96 (box_inb N5_1)).chg e101 N5_8
   have O6 := (O6.kept e96 (ne_dis N6_1)).chg e101 N6_8
   have O13 := O13.chg e101 N13_8
   have hB := (hB.chg e96 (fun g h_ => Or.inr h_)).chgb e101 (Or.inl L8)
   exact ⟨_, _, _, _, _, A97, c98, rfl, H, hB, O1, O8, O13, O3, O5, O6, N6_13⟩
  exact ⟨_, _, _, _, _, A46, c47, rfl, H, hB, O1, O8, O7, O3, O5, O6, N6_7⟩
 rintro _ w84 ⟨i76, i77, xs78, i81, i82, A79, c80, rfl, H, hB, O1, O8, O12, O3, O5, O6, N6_12⟩
 have H := hKK137 _ H
 try dsimp only at H ⊢
 refine ⟨((fun k_ => k_ = g1_)), _, _, _, ⟨(notM1 ((N1_8).symm) (by first | rfl | (simp only [blk_add]))), (O8.a 0)⟩, _, _, _, ⟨(notM1 ((N1_8).symm) (by first | rfl | (simp only [blk_add]))), (O8.a 1)⟩, _, _, _, ⟨(notM1 ((N1_8).symm) (by first | rfl | (simp only [blk_add]))), (O8.a 2)⟩, _, ⟨(notM1 ((N1_8).symm) (by first | rfl | (simp only [blk_add]))), (O8.a 3)⟩, _, ⟨(notM1 ((N1_8).symm) (by first | rfl | (simp only [blk_add]))), (O8.a 4)⟩, ?_⟩
 have O1 := O1.ext (Ext.drew _)
 have O3 := O3.ext (Ext.drew _)
 have O5 := O5.ext (Ext.drew _)
 have O6 := O6.ext (Ext.drew _)
 have O12 := O12.ext (Ext.drew _)
 have hB := hB.then (Ext.drew _)
 have hS103 := (Chg.refl ((fun k_ => k_ = g1_)) w84).then (Ext.drew _)
 obtain ⟨hp112, H⟩ := H
 obtain ⟨r110, hr111, H⟩ := callO H
 refine (spec_l01Below.con hp112 hr111 O1 (R0_0.chgS hB D0_0) hc0_0 (fun hx_ => (fun g h_ hS_ => D0_0 hx_ g h_ hS_))).mono ?_
 rintro _ w113 ⟨rfl, Q1, hq115, e114⟩
 simp only [bC, wC, hq115] at Q1
 have O12 := O12.chgS e114 (box_inb (O12.apart_type O1 (by decide)))
 have hS103 := hS103.chg e114 (fun g => (fun h_ => (Or.inr h_)))
 have hB := hB.chg e114 (fun g h_ => Or.inr h_)
 have O1 := Q1
 refine ⟨r110.1, rfl, sameBut_chg hS103, ?_⟩
 obtain ⟨hp118, H⟩ := H
 obtain ⟨r116, hr117, H⟩ := callO H
 refine (spec_l01Below.con hp118 hr117 O1 (R0_0.chgS hB D0_0) hc0_0 (fun hx_ => (fun g h_ hS_ => D0_0 hx_ g h_ hS_))).mono ?_
 rintro _ w119 ⟨rfl, Q1, hq121, e120⟩
 simp only [bC, wC, hq121] at Q1
 have O5 := (O5.chgS e114 (box_inb N5_1)).chgS e120 (box_inb N5_1)
 have O6 := (O6.kept e114 (ne_dis N6_1)).kept e120 (ne_dis N6_1)
 have O12 := O12.chgS e120 (box_inb (O12.apart_type O1 (by decide)))
 have hS103 := hS103.chg e120 (fun g => (fun h_ => (Or.inr h_)))
 have hB := hB.chg e120 (fun g h_ => Or.inr h_)
 refine ⟨r116.1, rfl, sameBut_chg hS103, ?_⟩
 obtain ⟨hp124, H⟩ := H
 obtain ⟨r122, hr123, H⟩ := callO H
 refine (spec_l32Run.con hp124 hr123 O5 hB.size O6 O12 N6_12).mono ?_
 rintro _ w125 ⟨A127, c128, A129, c130, F133, A131, c132, rfl, O14, O15, O16, N15_16, e126⟩
 have O3 := ((O3.chgS e114 ((N1_3).symm)).chgS e120 ((N1_3).symm)).ext e126
 have hS103 := hS103.then e126
 refine ⟨A127, r122.Code.length, c128, trivial, A129, r122.Warps.length, c130, trivial, A131, r122.Memory.length, c132, trivial, r122.Waiting, trivial, r122.Phase, trivial, rfl, sameBut_chg hS103, ?_⟩
 refine stB O3 0 (bC A127 c128 A129 c130 A131 c132 r122) (fun w134 P3 e135 => ?_)
 have O1 := (Q1.ext e126).chg e135 N1_3
 have O14 := O14.chg e135 (O14.apart_type O3 (by decide))
 have O15 := O15.chg e135 (O15.dis_blk O3 (by decide) (by decide) (by decide))
 have O16 := O16.chg e135 (O16.apart_type O3 (by decide))
 have hB := (hB.then e126).chgb e135 (Or.inl L3)
 have O3 := P3
 refine ⟨_, _, _, (O3.a 0), _, _, _, (O3.a 1), _, _, _, (O3.a 2), _, (O3.a 3), _, (O3.a 4), ?_⟩
 cases hr.trans H.symm
 exact ⟨A127, c128, A129, c130, F133, A131, c132, rfl, O14, O15, O16, N15_16, O1, rfl, hB⟩
def spec_DrawBlock.vc (A0 : OA) (n0 c0 : Nat) (w : World) (K : VK) : Prop :=
  newK w (.cells zC 33) fun g21 w22 => Cl 59 #[(sv A0 n0 c0)] w22 fun v23 w24 => (∃ (p25 : Addr), v23 = (.pointer (some p25)) ∧ Cl 58 #[(.pointer (some p25))] w24 fun v26 w27 => (∃ (A28 : OA) (n29 c30 : Nat), True ∧ ∃ (A31 : OA) (n32 c33 : Nat), True ∧ ∃ (A34 : OA) (n35 c36 : Nat), True ∧ ∃ (n37 : Int), True ∧ ∃ (n38 : Int), True ∧ v26 = (.agg (vB A28 n29 c30 A31 n32 c33 A34 n35 c36 n37 n38)) ∧ stCells (bx g21) [(sv A28 n29 c30), (sv A31 n32 c33), (sv A34 n35 c36), (iv n37), (iv n38)] 0 w27 fun w39 => ldB w39 (bx g21) fun A40 n41 c42 A43 n44 c45 A46 n47 c48 n49 n50 => K (.agg (vB A40 n41 c42 A43 n44 c45 A46 n47 c48 n49 n50)) w39))

def spec_DrawBlock.ann : Ann := (.seq .l (.seq .l .l))

theorem spec_DrawBlock.con {xs0 : List Int} {A0 : OA} {c0 : Nat} {r : D.Block} {w : World} (hp : M.spec_DrawBlock_pre xs0) (hr : r = M.spec_DrawBlock xs0) (R0 : Row el5 w A0 xs0) (hc0 : xs0.length ≤ c0) :
    Cl 19 #[(sv A0 xs0.length c0)] w (fun v_ w_ => ∃ (A0_ : OA) (c0_ : Nat) (A1_ : OA) (c1_ : Nat) (F1_ : Nat → Prop) (A2_ : OA) (c2_ : Nat), v_ = (.agg (bC A0_ c0_ A1_ c1_ A2_ c2_ r)) ∧ Own el84 w_ w.heap.size A0_ c0_ r.Code ∧ OwnW 52 el91 el3 w_ w.heap.size F1_ A1_ c1_ r.Warps ∧ Own el3 w_ w.heap.size A2_ c2_ r.Memory ∧ Dis (InW A1_ F1_) (InB A2_) ∧ Ext w w_) := by
 have H := wp.spec_DrawBlock.math xs0 hp
 have hB := Ext.refl w
 refine begK mixed Tryz.f19 ann (vc A0 xs0.length c0) ?_
 unfold vc
 unfold wp.spec_DrawBlock at H
 refine newBlk (fun g2_ w21 L2 P2 e22 => ?_)
 have O2 := P2
 have L2 := Nat.le_trans hB.size L2
 have hB := ethen hB e22
 obtain ⟨hp25, H⟩ := H
 obtain ⟨r23, hr24, H⟩ := callO H
 refine (spec_l01New.con hp25 hr24 (R0.ext hB) hc0).mono ?_
 rintro _ w26 ⟨g3_, rfl, O3, hq28, L3, e27⟩
 simp only [bC, wC, hq28] at O3
 have N2_3 := O2.ne L3
 have L3 := Nat.le_trans hB.size L3
 have O2 := O2.ext e27
 have hB := ethen hB e27
 refine ⟨(bx g3_), rfl, ?_⟩
 obtain ⟨hp31, H⟩ := H
 obtain ⟨r29, hr30, H⟩ := callO H
 refine (spec_l32Block.con hp31 hr30 O3 (R0.ext hB) hc0 (fun hx_ => (fun g h_ hS_ => Nat.not_le.2 (R0.old hx_ g h_) (box_low L3 _ hS_)))).mono ?_
 rintro _ w32 ⟨A34, c35, A36, c37, F40, A38, c39, rfl, P4, P5, P6, N5_6, Q3, hq41, e33⟩
 simp only [bC, wC, hq41] at Q3
 have N4_2 := P4.apart_old O2.lt
 have N5_2 := P5.new_disbox O2 (Nat.le_refl _)
 have N6_2 := P6.apart_old O2.lt
 have O2 := O2.chgS e33 (N2_3)
 have O4 := P4.mono hB.size
 have O5 := P5.mono hB.size
 have O6 := P6.mono hB.size
 have hB := Chg.ext hB e33 (box_low L3)
 refine ⟨A34, r29.1.Code.length, c35, trivial, A36, r29.1.Warps.length, c37, trivial, A38, r29.1.Memory.length, c39, trivial, r29.1.Waiting, trivial, r29.1.Phase, trivial, rfl, ?_⟩
 refine stBlk O2 (o := 0) (cs' := (bC A34 c35 A36 c37 A38 c39 r29.1)) rfl rfl (Nat.le_of_ble_eq_true rfl) rfl (fun w42 O2 e43 => ?_)
 have O4 := O4.chg e43 N4_2
 have O5 := O5.chg e43 N5_2
 have O6 := O6.chg e43 N6_2
 have hB := echg hB e43 L2
 refine ⟨_, _, _, (O2.a 0), _, _, _, (O2.a 1), _, _, _, (O2.a 2), _, (O2.a 3), _, (O2.a 4), ?_⟩
 cases hr.trans H.symm
 exact ⟨A34, c35, A36, c37, F40, A38, c39, rfl, O4, O5, O6, N5_6, hB⟩
def laws_FnWaits.vc (A0 : OA) (n0 c0 : Nat) (w : World) (K : VK) : Prop :=
  Cl 18 #[(sv A0 n0 c0)] w fun v21 w22 => (∃ (b23 : Bool), v21 = (.bool b23) ∧ bcase b23 (K (.bool true) w22) (Cl 19 #[(sv A0 n0 c0)] w22 fun v24 w25 => (∃ (A26 : OA) (n27 c28 : Nat), True ∧ ∃ (A29 : OA) (n30 c31 : Nat), True ∧ ∃ (A32 : OA) (n33 c34 : Nat), True ∧ ∃ (n35 : Int), True ∧ ∃ (n36 : Int), True ∧ v24 = (.agg (vB A26 n27 c28 A29 n30 c31 A32 n33 c34 n35 n36)) ∧ newK w25 (.cells zC 33) fun g37 w38 => stCells (bx g37) [(sv A26 n27 c28), (sv A29 n30 c31), (sv A32 n33 c34), (iv n35), (iv n36)] 0 w38 fun w39 => ldB w39 (bx g37) fun A40 n41 c42 A43 n44 c45 A46 n47 c48 n49 n50 => Cl 20 #[(.agg (vB A40 n41 c42 A43 n44 c45 A46 n47 c48 n49 n50))] w39 fun v51 w52 => (∃ (b53 : Bool), v51 = (.bool b53) ∧ LoopT (σ := Int × Unit) (fun z54 w55 next56 => ldS w55 (((bx g37).add 1).add 0) fun A57 n58 c59 => bcase (decide (z54.1 < ((n58 : Nat) : Int))) ((∃ M60 : Nat → Prop, ldSM M60 w55 (bx g37) 0 fun A61 n62 c63 => ldSM M60 w55 (bx g37) 1 fun A64 n65 c66 => ldSM M60 w55 (bx g37) 2 fun A67 n68 c69 => ldIM M60 w55 (bx g37) 3 fun n70 => ldIM M60 w55 (bx g37) 4 fun n71 => ldSM M60 w55 (bx g37) 0 fun A72 n73 c74 => ldSM M60 w55 (bx g37) 1 fun A75 n76 c77 => ldSM M60 w55 (bx g37) 2 fun A78 n79 c80 => ldIM M60 w55 (bx g37) 3 fun n81 => ldIM M60 w55 (bx g37) 4 fun n82 => Cl 21 #[(.agg (vB A61 n62 c63 A64 n65 c66 A67 n68 c69 n70 n71)), (iv z54.1)] w55.drew fun v83 w84 => (∃ (b85 : Bool), v83 = (.bool b85) ∧ SameBut M60 w55 w84 ∧ Cl 22 #[(.agg (vB A72 n73 c74 A75 n76 c77 A78 n79 c80 n81 n82)), (iv z54.1)] w84 fun v86 w87 => (∃ (b88 : Bool), v86 = (.bool b88) ∧ SameBut M60 w55 w87 ∧ bcase (!(b85 == b88)) (K (.bool false) w87) (ldSM M60 w55 (bx g37) 0 fun A89 n90 c91 => ldSM M60 w55 (bx g37) 1 fun A92 n93 c94 => ldSM M60 w55 (bx g37) 2 fun A95 n96 c97 => ldIM M60 w55 (bx g37) 3 fun n98 => ldIM M60 w55 (bx g37) 4 fun n99 => Cl 21 #[(.agg (vB A89 n90 c91 A92 n93 c94 A95 n96 c97 n98 n99)), (iv z54.1)] w87 fun v100 w101 => (∃ (b102 : Bool), v100 = (.bool b102) ∧ SameBut M60 w55 w101 ∧ bcase b102 (ldSM M60 w55 (bx g37) 0 fun A103 n104 c105 => ldSM M60 w55 (bx g37) 1 fun A106 n107 c108 => ldSM M60 w55 (bx g37) 2 fun A109 n110 c111 => ldIM M60 w55 (bx g37) 3 fun n112 => ldIM M60 w55 (bx g37) 4 fun n113 => Cl 23 #[(.agg (vB A103 n104 c105 A106 n107 c108 A109 n110 c111 n112 n113)), (iv z54.1)] w101 fun v114 w115 => (∃ (b116 : Bool), v114 = (.bool b116) ∧ SameBut M60 w55 w115 ∧ bcase b116 (K (.bool false) w115) (bcase b53 (K (.bool false) w115) (ldSM M60 w55 (bx g37) 0 fun A117 n118 c119 => ldSM M60 w55 (bx g37) 1 fun A120 n121 c122 => ldSM M60 w55 (bx g37) 2 fun A123 n124 c125 => ldIM M60 w55 (bx g37) 3 fun n126 => ldIM M60 w55 (bx g37) 4 fun n127 => Cl 24 #[(.agg (vB A117 n118 c119 A120 n121 c122 A123 n124 c125 n126 n127)), (iv z54.1)] w115 fun v128 w129 => (∃ (b130 : Bool), v128 = (.bool b130) ∧ SameBut M60 w55 w129 ∧ bcase b130 (K (.bool false) w129) (next56 ((wrap .i64 (z54.1 + 1)), ()) w129)))))) (next56 ((wrap .i64 (z54.1 + 1)), ()) w101))))))) (ldB w55 (bx g37) fun A131 n132 c133 A134 n135 c136 A137 n138 c139 n140 n141 => Cl 25 #[(.agg (vB A131 n132 c133 A134 n135 c136 A137 n138 c139 n140 n141))] w55 fun v142 w143 => (∃ (s144 : ByteArray), v142 = (.string s144) ∧ bcase ((ByteArray.toList s144 == ByteArray.toList (⟨#[]⟩)) == (!b53)) (bcase b53 (ldB w143 (bx g37) fun A145 n146 c147 A148 n149 c150 A151 n152 c153 n154 n155 => Cl 26 #[(.agg (vB A145 n146 c147 A148 n149 c150 A151 n152 c153 n154 n155))] w143 fun v156 w157 => (∃ (b158 : Bool), v156 = (.bool b158) ∧ K (.bool (!b158)) w157)) (K (.bool true) w143)) (K (.bool false) w143)))) (0, ()) w52))))

def laws_FnWaits.ann : Ann := (.seq .l (.seq (.seq .l (.two (.seq .l .l) .l)) (.seq .l (.seq .l (.seq (.seq .l (.one (.loop [(5, .int .i64)] (.seq (.seq .l (.two .l .l)) (.seq (.one (.seq .l (.two (.seq .l .l) .l))) .l))))) (.seq .l .l))))))

theorem laws_FnWaits.con {xs0 : List Int} {A0 : OA} {c0 : Nat} {r : Bool} {w : World} (hp : M.laws_FnWaits_pre xs0) (hr : r = M.laws_FnWaits xs0) (R0 : Row el5 w A0 xs0) (hc0 : xs0.length ≤ c0) :
    Cl 4 #[(sv A0 xs0.length c0)] w (fun v_ w_ => v_ = (.bool r) ∧ Ext w w_) := by
 have H := wp.laws_FnWaits.math xs0 hp
 have hB := Ext.refl w
 refine begK mixed Tryz.f4 ann (vc A0 xs0.length c0) ?_
 unfold vc
 unfold wp.laws_FnWaits at H
 obtain ⟨r21, hr22, H⟩ := callO H
 refine (laws_big.con hr22 (R0.ext hB) hc0).mono ?_
 rintro _ w24 ⟨rfl, e25⟩
 have hB := ethen hB e25
 refine ⟨r21, rfl, ?_⟩
 refine brc H (fun h H => ?_) fun h H => ?_
 ·cases hr.trans H.symm
  exact ⟨rfl, hB⟩
 obtain ⟨hp28, H⟩ := H
 obtain ⟨r26, hr27, H⟩ := callO H
 refine (spec_DrawBlock.con hp28 hr27 (R0.ext hB) hc0).mono ?_
 rintro _ w29 ⟨A31, c32, A33, c34, F37, A35, c36, rfl, P2, P3, P4, N3_4, e30⟩
 have O2 := P2.mono hB.size
 have O3 := P3.mono hB.size
 have O4 := P4.mono hB.size
 refine ⟨A31, r26.Code.length, c32, trivial, A33, r26.Warps.length, c34, trivial, A35, r26.Memory.length, c36, trivial, r26.Waiting, trivial, r26.Phase, trivial, rfl, ?_⟩
 refine newSt (bC A31 c32 A33 c34 A35 c36 r26) (fun g5_ w40 L5 O5 e41 => ?_)
 have O2 := O2.ext e41
 have O3 := O3.ext e41
 have O4 := O4.ext e41
 refine ⟨_, _, _, (O5.a 0), _, _, _, (O5.a 1), _, _, _, (O5.a 2), _, (O5.a 3), _, (O5.a 4), ?_⟩
 obtain ⟨hp44, H⟩ := H
 obtain ⟨r42, hr43, H⟩ := callO H
 refine (impl_IsStuck.con hp44 hr43 O2.row O2.le O3.row O3.le O4.row O4.le).mono ?_
 rintro _ w45 ⟨rfl, e46⟩
 have O2 := O2.ext e46
 have O3 := O3.ext e46
 have O4 := O4.ext e46
 have O5 := O5.ext e46
 have hB := ethen (ethen (ethen hB e30) e41) e46
 refine ⟨r42, rfl, ?_⟩
 obtain ⟨J49, ⟨m115, hJ114⟩, hS50⟩ := H
 refine ⟨fun m_ z_ w_ => ∃ (i47 : Int), z_ = (i47, ()) ∧ J49 m_ (i47, ()) ∧ Ext w w_ ∧ Own el84 w_ w.heap.size A31 c32 r26.Code ∧ OwnW 52 el91 el3 w_ w.heap.size F37 A33 c34 r26.Warps ∧ Own el3 w_ w.heap.size A35 c36 r26.Memory ∧ Blk w_ g5_ 33 (bC A31 c32 A33 c34 A35 c36 r26), ⟨m115, 0, rfl, hJ114, hB, O2, O3, O4, O5⟩, ?_⟩
 rintro m48 _ w52 ⟨i47, rfl, hJ116, hB, O2, O3, O4, O5⟩
 have H := hS50 m48 _ hJ116
 clear hS50 hJ116
 try dsimp only at H ⊢
 refine ⟨_, _, _, (O5.a 1), ?_⟩
 refine brc H (fun h H => ?_) fun h H => ?_
 ·refine ⟨(fun _ => False), ?_⟩
  have hBz := hB
  have Z5 := O5
  refine ⟨_, _, _, noM (O5.a 0), _, _, _, noM (O5.a 1), _, _, _, noM (O5.a 2), _, noM (O5.a 3), _, noM (O5.a 4), _, _, _, noM (O5.a 0), _, _, _, noM (O5.a 1), _, _, _, noM (O5.a 2), _, noM (O5.a 3), _, noM (O5.a 4), ?_⟩
  have O2 := O2.ext (Ext.drew _)
  have O3 := O3.ext (Ext.drew _)
  have O4 := O4.ext (Ext.drew _)
  have O5 := O5.ext (Ext.drew _)
  have hB := ethen hB (Ext.drew _)
  have hS53 := (Chg.refl (fun _ => False) w52).then (Ext.drew _)
  obtain ⟨hp66, H⟩ := H
  obtain ⟨r64, hr65, H⟩ := callO H
  refine (impl_CanStep.con hp66 hr65 O2.row O2.le O3.row O3.le O4.row O4.le).mono ?_
  rintro _ w67 ⟨rfl, e68⟩
  have O2 := O2.ext e68
  have O3 := O3.ext e68
  have O4 := O4.ext e68
  have hS53 := hS53.then e68
  refine ⟨r64, rfl, sameBut_chg hS53, ?_⟩
  obtain ⟨hp71, H⟩ := H
  obtain ⟨r69, hr70, H⟩ := callO H
  refine (spec_CanStep.con hp71 hr70 O2.row O2.le O3.row O3.le O4.row O4.le).mono ?_
  rintro _ w72 ⟨rfl, e73⟩
  have O2 := O2.ext e73
  have O3 := O3.ext e73
  have O4 := O4.ext e73
  have O5 := (O5.ext e68).ext e73
  have hB := ethen (ethen hB e68) e73
  have hS53 := hS53.then e73
  refine ⟨r69, rfl, sameBut_chg hS53, ?_⟩
  refine brc H (fun h H => ?_) fun h H => ?_
  ·cases hr.trans H.symm
   exact ⟨rfl, hB⟩
  refine ⟨_, _, _, ⟨(fun h_ => h_), (Z5.at 0 rfl rfl)⟩, _, _, _, ⟨(fun h_ => h_), (Z5.at 1 rfl rfl)⟩, _, _, _, ⟨(fun h_ => h_), (Z5.at 2 rfl rfl)⟩, _, ⟨(fun h_ => h_), (Z5.at 3 rfl rfl)⟩, _, ⟨(fun h_ => h_), (Z5.at 4 rfl rfl)⟩, ?_⟩
  obtain ⟨hp76, H⟩ := H
  obtain ⟨r74, hr75, H⟩ := callO H
  refine (impl_CanStep.con hp76 hr75 O2.row O2.le O3.row O3.le O4.row O4.le).mono ?_
  rintro _ w77 ⟨rfl, e78⟩
  have O2 := O2.ext e78
  have O3 := O3.ext e78
  have O4 := O4.ext e78
  have O5 := O5.ext e78
  have hB := ethen hB e78
  have hS53 := hS53.then e78
  refine ⟨r74, rfl, sameBut_chg hS53, ?_⟩
  refine brc H (fun h H => ?_) fun h H => ?_
  ·refine ⟨_, _, _, ⟨(fun h_ => h_), (Z5.at 0 rfl rfl)⟩, _, _, _, ⟨(fun h_ => h_), (Z5.at 1 rfl rfl)⟩, _, _, _, ⟨(fun h_ => h_), (Z5.at 2 rfl rfl)⟩, _, ⟨(fun h_ => h_), (Z5.at 3 rfl rfl)⟩, _, ⟨(fun h_ => h_), (Z5.at 4 rfl rfl)⟩, ?_⟩
   obtain ⟨hp81, H⟩ := H
   obtain ⟨r79, hr80, H⟩ := callO H
   refine (impl_IsWaiting.con hp81 hr80 O2.row O2.le O3.row O3.le O4.row O4.le).mono ?_
   rintro _ w82 ⟨rfl, e83⟩
   have O2 := O2.ext e83
   have O3 := O3.ext e83
   have O4 := O4.ext e83
   have O5 := O5.ext e83
   have hB := ethen hB e83
   have hS53 := hS53.then e83
   refine ⟨r79, rfl, sameBut_chg hS53, ?_⟩
   refine brc H (fun h H => ?_) fun h H => ?_
   ·cases hr.trans H.symm
    exact ⟨rfl, hB⟩
   refine brc H (fun h H => ?_) fun h H => ?_
   ·cases hr.trans H.symm
    exact ⟨rfl, hB⟩
   refine ⟨_, _, _, ⟨(fun h_ => h_), (Z5.at 0 rfl rfl)⟩, _, _, _, ⟨(fun h_ => h_), (Z5.at 1 rfl rfl)⟩, _, _, _, ⟨(fun h_ => h_), (Z5.at 2 rfl rfl)⟩, _, ⟨(fun h_ => h_), (Z5.at 3 rfl rfl)⟩, _, ⟨(fun h_ => h_), (Z5.at 4 rfl rfl)⟩, ?_⟩
   obtain ⟨hp86, H⟩ := H
   obtain ⟨r84, hr85, H⟩ := callO H
   refine (impl_IsSplitBarrier.con hp86 hr85 O2.row O2.le O3.row O3.le O4.row O4.le).mono ?_
   rintro _ w87 ⟨rfl, e88⟩
   have O2 := O2.ext e88
   have O3 := O3.ext e88
   have O4 := O4.ext e88
   have O5 := O5.ext e88
   have hB := ethen hB e88
   have hS53 := hS53.then e88
   refine ⟨r84, rfl, sameBut_chg hS53, ?_⟩
   refine brc H (fun h H => ?_) fun h H => ?_
   ·cases hr.trans H.symm
    exact ⟨rfl, hB⟩
   obtain ⟨m89, hm90, hJ91⟩ := H
   exact ⟨m89, hm90, _, rfl, hJ91, hB, O2, O3, O4, O5⟩
  obtain ⟨m95, hm96, hJ97⟩ := H
  exact ⟨m95, hm96, _, rfl, hJ97, hB, O2, O3, O4, O5⟩
 refine ⟨_, _, _, (O5.a 0), _, _, _, (O5.a 1), _, _, _, (O5.a 2), _, (O5.a 3), _, (O5.a 4), ?_⟩
 obtain ⟨hp102, H⟩ := H
 obtain ⟨r100, hr101, H⟩ := callO H
 refine (impl_StuckReason.con hp102 hr101 O2.row O2.le O3.row O3.le O4.row O4.le).mono ?_
 rintro _ w103 ⟨rfl, e104⟩
 have O2 := O2.ext e104
 have O3 := O3.ext e104
 have O4 := O4.ext e104
 have O5 := O5.ext e104
 have hB := ethen hB e104
 refine ⟨r100, rfl, ?_⟩
 refine brc H (fun h H => ?_) fun h H => ?_
 ·refine brc H (fun h H => ?_) fun h H => ?_
  ·refine ⟨_, _, _, (O5.a 0), _, _, _, (O5.a 1), _, _, _, (O5.a 2), _, (O5.a 3), _, (O5.a 4), ?_⟩
   obtain ⟨hp107, H⟩ := H
   obtain ⟨r105, hr106, H⟩ := callO H
   refine (impl_BlockEnded.con hp107 hr106 O2.row O2.le O3.row O3.le O4.row O4.le).mono ?_
   rintro _ w108 ⟨rfl, e109⟩
   have hB := ethen hB e109
   refine ⟨r105, rfl, ?_⟩
   cases hr.trans H.symm
   exact ⟨rfl, hB⟩
  cases hr.trans H.symm
  exact ⟨rfl, hB⟩
 cases hr.trans H.symm
 exact ⟨rfl, hB⟩
end Go.V
