import Derived.Test.YtkpfabigipedcaaGreatBsCon3
namespace Go.V
open Go.Proofs
open IntKind (wrap)
set_option linter.unusedVariables false
set_option linter.unusedSimpArgs false
set_option maxRecDepth 100000
def qaP.vc (A0 : OA) (n0 c0 : Nat) (w : World) (K : VK) : Prop :=
  Cl 18 #[(sv A0 n0 c0)] w fun v21 w22 => (∃ (b23 : Bool), v21 = (.bool b23) ∧ bcase b23 (K (.bool true) w22) (Cl 19 #[(sv A0 n0 c0)] w22 fun v24 w25 => (∃ (A26 : OA) (n27 c28 : Nat), True ∧ ∃ (A29 : OA) (n30 c31 : Nat), True ∧ ∃ (A32 : OA) (n33 c34 : Nat), True ∧ ∃ (n35 : Int), True ∧ ∃ (n36 : Int), True ∧ v24 = (.agg (vB A26 n27 c28 A29 n30 c31 A32 n33 c34 n35 n36)) ∧ newK w25 (.cells zC 33) fun g37 w38 => qa5 (bx g37) [(sv A26 n27 c28), (sv A29 n30 c31), (sv A32 n33 c34), (iv n35), (iv n36)] 0 w38 fun w39 => Cl 27 #[(sv A0 n0 c0)] w39 fun v40 w41 => (∃ (A42 : OA) (n43 c44 : Nat), v40 = (sv A42 n43 c44) ∧ (idx 0 n43 A42 fun a45 => ldI w41 ((a45.add (((0 : Int).toNat) * 1)).add 0) fun n46 => ldS w41 (((bx g37).add 1).add 0) fun A47 n48 c49 => ((((n48 : Nat) : Int) : Int) ≠ 0 ∧ ∃ (A50 : OA) (n51 c52 : Nat), w41.drew.cell? ((bx g37).add 0) = some (sv A50 n51 c52) ∧ ∃ (A53 : OA) (n54 c55 : Nat), w41.drew.cell? ((bx g37).add 1) = some (sv A53 n54 c55) ∧ ∃ (A56 : OA) (n57 c58 : Nat), w41.drew.cell? ((bx g37).add 2) = some (sv A56 n57 c58) ∧ ∃ (n59 : Int), w41.drew.cell? ((bx g37).add 3) = some (iv n59) ∧ ∃ (n60 : Int), w41.drew.cell? ((bx g37).add 4) = some (iv n60) ∧ Cl 28 #[(.agg (vB A50 n51 c52 A53 n54 c55 A56 n57 c58 n59 n60)), (iv (Int.tmod n46 ((n48 : Nat) : Int)))] w41.drew fun v61 w62 => (∃ (n63 : Int), v61 = (iv n63) ∧ ldB w62 (bx g37) fun A64 n65 c66 A67 n68 c69 A70 n71 c72 n73 n74 => Cl 29 #[(.agg (vB A64 n65 c66 A67 n68 c69 A70 n71 c72 n73 n74)), (iv (Int.tmod n46 ((n48 : Nat) : Int)))] w62 fun v75 w76 => (∃ u77 : Value, (∃ (A78 : OA) (n79 c80 : Nat), True ∧ ∃ (A81 : OA) (n82 c83 : Nat), True ∧ ∃ (A84 : OA) (n85 c86 : Nat), True ∧ ∃ (n87 : Int), True ∧ ∃ (n88 : Int), True ∧ u77 = (.agg (vB A78 n79 c80 A81 n82 c83 A84 n85 c86 n87 n88)) ∧ ∃ u89 : Value, (∃ (b90 : Bool), u89 = (.bool b90) ∧ v75 = (.tuple #[(.agg (vB A78 n79 c80 A81 n82 c83 A84 n85 c86 n87 n88)), (.bool b90)]) ∧ newK w76 (.cells zC 33) fun g91 w92 => qa5 (bx g91) [(sv A78 n79 c80), (sv A81 n82 c83), (sv A84 n85 c86), (iv n87), (iv n88)] 0 w92 fun w93 => ldB w93 (bx g37) fun A95 n96 c97 A98 n99 c100 A101 n102 c103 n104 n105 => Cl 21 #[(.agg (vB A95 n96 c97 A98 n99 c100 A101 n102 c103 n104 n105)), (iv (Int.tmod n46 ((n48 : Nat) : Int)))] w93 fun v106 w107 => (∃ (b108 : Bool), v106 = (.bool b108) ∧ bcase (!(b90 == b108)) (K (.bool false) w107) (ldS w107 (((bx g91).add 1).add 0) fun A109 n110 c111 => ldS w107 (((bx g37).add 1).add 0) fun A112 n113 c114 => bcase (((n110 : Nat) : Int) != ((n113 : Nat) : Int)) (K (.bool false) w107) (bcase (!b90) (ldB w107 (bx g91) fun A115 n116 c117 A118 n119 c120 A121 n122 c123 n124 n125 => ldB w107 (bx g37) fun A126 n127 c128 A129 n130 c131 A132 n133 c134 n135 n136 => Cl 30 #[(.agg (vB A115 n116 c117 A118 n119 c120 A121 n122 c123 n124 n125)), (.agg (vB A126 n127 c128 A129 n130 c131 A132 n133 c134 n135 n136))] w107 fun v137 w138 => (∃ (b139 : Bool), v137 = (.bool b139) ∧ K (.bool b139) w138)) (qdp (σ := Int × Unit) (fun z140 w141 next142 => ldS w141 (((bx g37).add 1).add 0) fun A143 n144 c145 => bcase (decide (z140.1 < ((n144 : Nat) : Int))) ((∃ M146 : Nat → Prop, bcase (z140.1 != (Int.tmod n46 ((n48 : Nat) : Int))) (ldSM M146 w141 ((bx g91).add 1) 0 fun A147 n148 c149 => (idx z140.1 n148 A147 fun a150 => ldIM M146 w141 (a150.add ((z140.1.toNat) * 3)) 0 fun n151 => ldSM M146 w141 (a150.add ((z140.1.toNat) * 3)) 1 fun A152 n153 c154 => ldSM M146 w141 (a150.add ((z140.1.toNat) * 3)) 2 fun A155 n156 c157 => ldSM M146 w141 ((bx g37).add 1) 0 fun A158 n159 c160 => (idx z140.1 n159 A158 fun a161 => ldIM M146 w141 (a161.add ((z140.1.toNat) * 3)) 0 fun n162 => ldSM M146 w141 (a161.add ((z140.1.toNat) * 3)) 1 fun A163 n164 c165 => ldSM M146 w141 (a161.add ((z140.1.toNat) * 3)) 2 fun A166 n167 c168 => Cl 31 #[(.agg #[(iv n151), (sv A152 n153 c154), (sv A155 n156 c157)]), (.agg #[(iv n162), (sv A163 n164 c165), (sv A166 n167 c168)])] w141.drew fun v169 w170 => (∃ (b171 : Bool), v169 = (.bool b171) ∧ qab M146 w141 w170 ∧ bcase (!b171) (K (.bool false) w170) (next142 ((wrap .i64 (z140.1 + 1)), ()) w170))))) (next142 ((wrap .i64 (z140.1 + 1)), ()) w141.drew))) (ldB w141 (bx g91) fun A172 n173 c174 A175 n176 c177 A178 n179 c180 n181 n182 => Cl 32 #[(.agg (vB A172 n173 c174 A175 n176 c177 A178 n179 c180 n181 n182))] w141 fun v183 w184 => (∃ (b185 : Bool), v183 = (.bool b185) ∧ bcase b185 (ldI w184 (((bx g91).add 4).add 0) fun n186 => ldI w184 (((bx g37).add 4).add 0) fun n187 => bcase (decide (n186 ≥ n187)) (bcase (n63 == 14) (ldI w184 (((bx g91).add 4).add 0) fun n188 => ldI w184 (((bx g37).add 4).add 0) fun n189 => bcase (n188 == n189) (bcase (n63 == 16) (K (.bool true) w184) (ldB w184 (bx g91) fun A190 n191 c192 A193 n194 c195 A196 n197 c198 n199 n200 => Cl 23 #[(.agg (vB A190 n191 c192 A193 n194 c195 A196 n197 c198 n199 n200)), (iv (Int.tmod n46 ((n48 : Nat) : Int)))] w184 fun v201 w202 => (∃ (b203 : Bool), v201 = (.bool b203) ∧ K (.bool (!b203)) w202))) (ldI w184 (((bx g91).add 3).add 0) fun n204 => bcase (n204 == 0) (bcase (n63 == 16) (K (.bool true) w184) (ldB w184 (bx g91) fun A205 n206 c207 A208 n209 c210 A211 n212 c213 n214 n215 => Cl 23 #[(.agg (vB A205 n206 c207 A208 n209 c210 A211 n212 c213 n214 n215)), (iv (Int.tmod n46 ((n48 : Nat) : Int)))] w184 fun v216 w217 => (∃ (b218 : Bool), v216 = (.bool b218) ∧ K (.bool (!b218)) w217))) (K (.bool false) w184))) (bcase (n63 == 15) (ldI w184 (((bx g91).add 4).add 0) fun n219 => ldI w184 (((bx g37).add 4).add 0) fun n220 => bcase (n219 == n220) (bcase (n63 == 16) (K (.bool true) w184) (ldB w184 (bx g91) fun A221 n222 c223 A224 n225 c226 A227 n228 c229 n230 n231 => Cl 23 #[(.agg (vB A221 n222 c223 A224 n225 c226 A227 n228 c229 n230 n231)), (iv (Int.tmod n46 ((n48 : Nat) : Int)))] w184 fun v232 w233 => (∃ (b234 : Bool), v232 = (.bool b234) ∧ K (.bool (!b234)) w233))) (ldI w184 (((bx g91).add 3).add 0) fun n235 => bcase (n235 == 0) (bcase (n63 == 16) (K (.bool true) w184) (ldB w184 (bx g91) fun A236 n237 c238 A239 n240 c241 A242 n243 c244 n245 n246 => Cl 23 #[(.agg (vB A236 n237 c238 A239 n240 c241 A242 n243 c244 n245 n246)), (iv (Int.tmod n46 ((n48 : Nat) : Int)))] w184 fun v247 w248 => (∃ (b249 : Bool), v247 = (.bool b249) ∧ K (.bool (!b249)) w248))) (K (.bool false) w184))) (ldS w184 (((bx g91).add 2).add 0) fun A250 n251 c252 => ldS w184 (((bx g37).add 2).add 0) fun A253 n254 c255 => Cl 33 #[(sv A250 n251 c252), (sv A253 n254 c255)] w184 fun v256 w257 => (∃ (b258 : Bool), v256 = (.bool b258) ∧ bcase b258 (ldI w257 (((bx g91).add 4).add 0) fun n259 => ldI w257 (((bx g37).add 4).add 0) fun n260 => bcase (n259 == n260) (bcase (n63 == 16) (K (.bool true) w257) (ldB w257 (bx g91) fun A261 n262 c263 A264 n265 c266 A267 n268 c269 n270 n271 => Cl 23 #[(.agg (vB A261 n262 c263 A264 n265 c266 A267 n268 c269 n270 n271)), (iv (Int.tmod n46 ((n48 : Nat) : Int)))] w257 fun v272 w273 => (∃ (b274 : Bool), v272 = (.bool b274) ∧ K (.bool (!b274)) w273))) (ldI w257 (((bx g91).add 3).add 0) fun n275 => bcase (n275 == 0) (bcase (n63 == 16) (K (.bool true) w257) (ldB w257 (bx g91) fun A276 n277 c278 A279 n280 c281 A282 n283 c284 n285 n286 => Cl 23 #[(.agg (vB A276 n277 c278 A279 n280 c281 A282 n283 c284 n285 n286)), (iv (Int.tmod n46 ((n48 : Nat) : Int)))] w257 fun v287 w288 => (∃ (b289 : Bool), v287 = (.bool b289) ∧ K (.bool (!b289)) w288))) (K (.bool false) w257))) (K (.bool false) w257))))) (K (.bool false) w184)) (K (.bool false) w184)))) (0, ()) w107))))))))))))))

def qaP.ann : Ann := (.seq .l (.seq (.seq .l (.two (.seq .l .l) .l)) (.seq .l (.seq .l (.seq .l (.seq .l (.seq .l (.seq (.seq .l (.two (.seq .l .l) .l)) (.seq (.seq .l (.two (.seq .l .l) .l)) (.seq (.seq .l (.one (.loop [(9, .int .i64)] (.seq (.seq .l (.two .l .l)) (.seq (.one (.seq .l (.two (.seq .l .l) .l))) .l))))) (.seq .l .l)))))))))))

theorem qaP.con {xs0 : List Int} {A0 : OA} {c0 : Nat} {r : Bool} {w : World} (hp : M.qeo xs0) (hr : r = M.qaP xs0) (R0 : Row el5 w A0 xs0) (hc0 : xs0.length ≤ c0) :
    Cl 5 #[(sv A0 xs0.length c0)] w (fun v_ w_ => v_ = (.bool r) ∧ Ext w w_) := by
 have H := wp.qaP.math xs0 hp
 have hB := Ext.refl w
 refine begK mixed Tryz.f5 ann (vc A0 xs0.length c0) ?_
 unfold vc
 unfold wp.qaP at H
 obtain ⟨r21, hr22, H⟩ := qa9 H
 refine (qeQ.con hr22 (R0.ext hB) hc0).mono ?_
 rintro _ w24 ⟨rfl, e25⟩
 have hB := ethen hB e25
 refine ⟨r21, rfl, ?_⟩
 refine brc H (fun h H => ?_) fun h H => ?_
 ·cases hr.trans H.symm
  exact ⟨rfl, hB⟩
 obtain ⟨hp28, H⟩ := H
 obtain ⟨r26, hr27, H⟩ := qa9 H
 refine (qbP.con hp28 hr27 (R0.ext hB) hc0).mono ?_
 rintro _ w29 ⟨A31, c32, A33, c34, F37, A35, c36, rfl, P2, P3, P4, N3_4, e30⟩
 have O2 := P2.mono hB.size
 have O3 := P3.mono hB.size
 have O4 := P4.mono hB.size
 have hB := ethen hB e30
 refine ⟨A31, r26.Code.length, c32, trivial, A33, r26.Warps.length, c34, trivial, A35, r26.Memory.length, c36, trivial, r26.Waiting, trivial, r26.Phase, trivial, rfl, ?_⟩
 refine qav (fun g5_ w38 L5 P5 e39 => ?_)
 have N2_5 := O2.qah L5
 have N3_5 := O3.qe5 L5
 have N4_5 := O4.qah L5
 have O2 := O2.ext e39
 have O3 := O3.ext e39
 have O4 := O4.ext e39
 have O5 := P5
 have L5 := Nat.le_trans hB.size L5
 have hB := ethen hB e39
 refine qbM O5 (o := 0) (cs' := (bC A31 c32 A33 c34 A35 c36 r26)) rfl rfl (Nat.le_of_ble_eq_true rfl) rfl (fun w40 O5 e41 => ?_)
 have O2_ := O2.chg e41 N2_5
 have O3_ := O3.chg e41 N3_5
 have O4_ := O4.chg e41 N4_5
 have hB := echg hB e41 L5
 obtain ⟨hp44, H⟩ := H
 obtain ⟨r42, hr43, H⟩ := qa9 H
 refine (qbb.con hp44 hr43 (R0.ext hB) hc0).mono ?_
 rintro _ w45 ⟨A47, c48, rfl, P6, e46⟩
 have O5 := O5.ext e46
 have O6 := P6.mono hB.size
 refine ⟨A47, r42.length, c48, rfl, ?_⟩
 obtain ⟨⟨h0_53, h1_54⟩, H⟩ := H
 obtain ⟨a51, ha52, hat50⟩ := Row.at O6.row h0_53 h1_54
 refine ⟨h0_53, h1_54, a51, ha52, _, (hat50 0 _ rfl), _, _, _, (O5.a 1), ?_⟩
 obtain ⟨hc55, H⟩ := H
 refine ⟨hc55, ?_⟩
 have O2 := (O2_.ext e46).ext (Ext.drew _)
 have O3 := (O3_.ext e46).ext (Ext.drew _)
 have O4 := (O4_.ext e46).ext (Ext.drew _)
 have O5 := O5.ext (Ext.drew _)
 have hB := ethen (ethen hB e46) (Ext.drew _)
 refine ⟨_, _, _, (O5.a 0), _, _, _, (O5.a 1), _, _, _, (O5.a 2), _, (O5.a 3), _, (O5.a 4), ?_⟩
 obtain ⟨hp58, H⟩ := H
 obtain ⟨r56, hr57, H⟩ := qa9 H
 refine (qcY.con hp58 hr57 O2.row O2.le O3.row O3.le O4.row O4.le).mono ?_
 rintro _ w59 ⟨rfl, e60⟩
 have O2 := O2.ext e60
 have O3 := O3.ext e60
 have O4 := O4.ext e60
 have O5 := O5.ext e60
 have hB := ethen hB e60
 refine ⟨r56, rfl, _, _, _, (O5.a 0), _, _, _, (O5.a 1), _, _, _, (O5.a 2), _, (O5.a 3), _, (O5.a 4), ?_⟩
 obtain ⟨hp63, H⟩ := H
 obtain ⟨r61, hr62, H⟩ := qa9 H
 refine (qcD.con hp63 hr62 O2.row O2.le O3.row O3.le O4.row O4.le).mono ?_
 rintro _ w64 ⟨A66, c67, A68, c69, F72, A70, c71, rfl, P7, P8, P9, N8_9, e65⟩
 have O7 := P7.mono hB.size
 have O8 := P8.mono hB.size
 have O9 := P9.mono hB.size
 refine ⟨(.agg (bC A66 c67 A68 c69 A70 c71 r61.1)), A66, r61.1.Code.length, c67, trivial, A68, r61.1.Warps.length, c69, trivial, A70, r61.1.Memory.length, c71, trivial, r61.1.Waiting, trivial, r61.1.Phase, trivial, rfl, (.bool r61.2), r61.2, rfl, rfl, ?_⟩
 refine qia (bC A66 c67 A68 c69 A70 c71 r61.1) (fun g10_ w75 L10 O10 e76 => ?_)
 have O2 := (O2.ext e65).ext e76
 have O3 := (O3.ext e65).ext e76
 have O4 := (O4.ext e65).ext e76
 have O5 := (O5.ext e65).ext e76
 refine ⟨_, _, _, (O5.a 0), _, _, _, (O5.a 1), _, _, _, (O5.a 2), _, (O5.a 3), _, (O5.a 4), ?_⟩
 obtain ⟨hp79, H⟩ := H
 obtain ⟨r77, hr78, H⟩ := qa9 H
 refine (qck.con hp79 hr78 O2.row O2.le O3.row O3.le O4.row O4.le).mono ?_
 rintro _ w80 ⟨rfl, e81⟩
 have O2 := O2.ext e81
 have O3 := O3.ext e81
 have O4 := O4.ext e81
 have O5 := O5.ext e81
 have O7 := (O7.ext e76).ext e81
 have O8 := (O8.ext e76).ext e81
 have O9 := (O9.ext e76).ext e81
 have O10 := O10.ext e81
 have hB := ethen (ethen (ethen hB e65) e76) e81
 refine ⟨r77, rfl, ?_⟩
 refine brc H (fun h H => ?_) fun h H => ?_
 ·cases hr.trans H.symm
  exact ⟨rfl, hB⟩
 refine ⟨_, _, _, (O10.a 1), _, _, _, (O5.a 1), ?_⟩
 refine brc H (fun h H => ?_) fun h H => ?_
 ·cases hr.trans H.symm
  exact ⟨rfl, hB⟩
 refine brc H (fun h H => ?_) fun h H => ?_
 ·refine ⟨_, _, _, (O10.a 0), _, _, _, (O10.a 1), _, _, _, (O10.a 2), _, (O10.a 3), _, (O10.a 4), _, _, _, (O5.a 0), _, _, _, (O5.a 1), _, _, _, (O5.a 2), _, (O5.a 3), _, (O5.a 4), ?_⟩
  obtain ⟨hp84, H⟩ := H
  obtain ⟨r82, hr83, H⟩ := qa9 H
  refine (qbX.con hp84 hr83 O7.row O7.le O8.row O8.le O9.row O9.le O2.row O2.le O3.row O3.le O4.row O4.le).mono ?_
  rintro _ w85 ⟨rfl, e86⟩
  have hB := ethen hB e86
  refine ⟨r82, rfl, ?_⟩
  cases hr.trans H.symm
  exact ⟨rfl, hB⟩
 obtain ⟨J89, ⟨m191, hJ190⟩, hS90⟩ := H
 refine ⟨fun m_ z_ w_ => ∃ (i87 : Int), z_ = (i87, ()) ∧ J89 m_ (i87, ()) ∧ Ext w w_ ∧ Own el84 w_ w.heap.size A31 c32 r26.Code ∧ OwnW 52 el91 el3 w_ w.heap.size F37 A33 c34 r26.Warps ∧ Own el3 w_ w.heap.size A35 c36 r26.Memory ∧ Blk w_ g5_ 33 (bC A31 c32 A33 c34 A35 c36 r26) ∧ Own el84 w_ w.heap.size A66 c67 r61.1.Code ∧ OwnW 52 el91 el3 w_ w.heap.size F72 A68 c69 r61.1.Warps ∧ Own el3 w_ w.heap.size A70 c71 r61.1.Memory ∧ Blk w_ g10_ 33 (bC A66 c67 A68 c69 A70 c71 r61.1), ⟨m191, 0, rfl, hJ190, hB, O2, O3, O4, O5, O7, O8, O9, O10⟩, ?_⟩
 rintro m88 _ w92 ⟨i87, rfl, hJ192, hB, O2, O3, O4, O5, O7, O8, O9, O10⟩
 have H := hS90 m88 _ hJ192
 clear hS90 hJ192
 try dsimp only at H ⊢
 refine ⟨_, _, _, (O5.a 1), ?_⟩
 refine brc H (fun h H => ?_) fun h H => ?_
 ·refine ⟨(fun _ => False), ?_⟩
  refine brc H (fun h H => ?_) fun h H => ?_
  ·refine ⟨_, _, _, noM (O10.a 1), ?_⟩
   obtain ⟨⟨h0_97, h1_98⟩, H⟩ := H
   obtain ⟨a95, ha96, _⟩ := RowW.at O8.row h0_97 h1_98
   refine ⟨h0_97, h1_98, a95, ha96, ?_⟩
   obtain ⟨A102, c103, A104, c105, f99, f100, f101⟩ := OwnW.qmm O8 ha96 h0_97 h1_98
   refine ⟨_, ⟨(fun h_ => h_), f99⟩, ?_⟩
   have C11 := f100
   refine ⟨_, _, _, ⟨(fun h_ => h_), f100⟩, ?_⟩
   have C12 := f101
   refine ⟨_, _, _, ⟨(fun h_ => h_), f101⟩, _, _, _, noM (O5.a 1), ?_⟩
   obtain ⟨⟨h0_109, h1_110⟩, H⟩ := H
   obtain ⟨a107, ha108, _⟩ := RowW.at O3.row h0_109 h1_110
   refine ⟨h0_109, h1_110, a107, ha108, ?_⟩
   obtain ⟨A114, c115, A116, c117, f111, f112, f113⟩ := OwnW.qmm O3 ha108 h0_109 h1_110
   refine ⟨_, ⟨(fun h_ => h_), f111⟩, ?_⟩
   have C13 := f112
   refine ⟨_, _, _, ⟨(fun h_ => h_), f112⟩, ?_⟩
   have C14 := f113
   refine ⟨_, _, _, ⟨(fun h_ => h_), f113⟩, ?_⟩
   have O2 := O2.ext (Ext.drew _)
   have O3 := O3.ext (Ext.drew _)
   have O4 := O4.ext (Ext.drew _)
   have O5 := O5.ext (Ext.drew _)
   have O7 := O7.ext (Ext.drew _)
   have O8 := O8.ext (Ext.drew _)
   have O9 := O9.ext (Ext.drew _)
   have O10 := O10.ext (Ext.drew _)
   have C11 := Ext.cell (Ext.drew _) C11
   have C12 := Ext.cell (Ext.drew _) C12
   have C13 := Ext.cell (Ext.drew _) C13
   have C14 := Ext.cell (Ext.drew _) C14
   have hB := ethen hB (Ext.drew _)
   have hS93 := (Chg.refl (fun _ => False) w92).then (Ext.drew _)
   obtain ⟨hp120, H⟩ := H
   obtain ⟨r118, hr119, H⟩ := qa9 H
   refine (cllA (qbw.con hp120 hr119 (OwnW.sub1 O8 ha96 h0_97 h1_98 C11).1.row (OwnW.sub1 O8 ha96 h0_97 h1_98 C11).1.le (OwnW.sub2 O8 ha96 h0_97 h1_98 C12).1.row (OwnW.sub2 O8 ha96 h0_97 h1_98 C12).1.le (OwnW.sub1 O3 ha108 h0_109 h1_110 C13).1.row (OwnW.sub1 O3 ha108 h0_109 h1_110 C13).1.le (OwnW.sub2 O3 ha108 h0_109 h1_110 C14).1.row (OwnW.sub2 O3 ha108 h0_109 h1_110 C14).1.le)).mono ?_
   rintro _ w121 ⟨rfl, e122⟩
   have O2 := O2.ext e122
   have O3 := O3.ext e122
   have O4 := O4.ext e122
   have O5 := O5.ext e122
   have O7 := O7.ext e122
   have O8 := O8.ext e122
   have O9 := O9.ext e122
   have O10 := O10.ext e122
   have hB := ethen hB e122
   have hS93 := hS93.then e122
   refine ⟨r118, rfl, qa1 hS93, ?_⟩
   refine brc H (fun h H => ?_) fun h H => ?_
   ·cases hr.trans H.symm
    exact ⟨rfl, hB⟩
   obtain ⟨m123, hm124, hJ125⟩ := H
   exact ⟨m123, hm124, _, rfl, hJ125, hB, O2, O3, O4, O5, O7, O8, O9, O10⟩
  have O2 := O2.ext (Ext.drew _)
  have O3 := O3.ext (Ext.drew _)
  have O4 := O4.ext (Ext.drew _)
  have O5 := O5.ext (Ext.drew _)
  have O7 := O7.ext (Ext.drew _)
  have O8 := O8.ext (Ext.drew _)
  have O9 := O9.ext (Ext.drew _)
  have O10 := O10.ext (Ext.drew _)
  have hB := ethen hB (Ext.drew _)
  obtain ⟨m127, hm128, hJ129⟩ := H
  exact ⟨m127, hm128, _, rfl, hJ129, hB, O2, O3, O4, O5, O7, O8, O9, O10⟩
 refine ⟨_, _, _, (O10.a 0), _, _, _, (O10.a 1), _, _, _, (O10.a 2), _, (O10.a 3), _, (O10.a 4), ?_⟩
 obtain ⟨hp133, H⟩ := H
 obtain ⟨r131, hr132, H⟩ := qa9 H
 refine (qcn.con hp133 hr132 O7.row O7.le O8.row O8.le O9.row O9.le).mono ?_
 rintro _ w134 ⟨rfl, e135⟩
 have O4 := O4.ext e135
 have O5 := O5.ext e135
 have O7 := O7.ext e135
 have O8 := O8.ext e135
 have O9 := O9.ext e135
 have O10 := O10.ext e135
 have hB := ethen hB e135
 refine ⟨r131, rfl, ?_⟩
 refine brc H (fun h H => ?_) fun h H => ?_
 ·refine ⟨_, (O10.a 4), _, (O5.a 4), ?_⟩
  refine brc H (fun h H => ?_) fun h H => ?_
  ·refine brc H (fun h H => ?_) fun h H => ?_
   ·refine ⟨_, (O10.a 4), _, (O5.a 4), ?_⟩
    refine brc H (fun h H => ?_) fun h H => ?_
    ·refine brc H (fun h H => ?_) fun h H => ?_
     ·cases hr.trans H.symm
      exact ⟨rfl, hB⟩
     refine ⟨_, _, _, (O10.a 0), _, _, _, (O10.a 1), _, _, _, (O10.a 2), _, (O10.a 3), _, (O10.a 4), ?_⟩
     obtain ⟨hp138, H⟩ := H
     obtain ⟨r136, hr137, H⟩ := qa9 H
     refine (qay.con hp138 hr137 O7.row O7.le O8.row O8.le O9.row O9.le).mono ?_
     rintro _ w139 ⟨rfl, e140⟩
     have hB := ethen hB e140
     refine ⟨r136, rfl, ?_⟩
     cases hr.trans H.symm
     exact ⟨rfl, hB⟩
    refine ⟨_, (O10.a 3), ?_⟩
    refine brc H (fun h H => ?_) fun h H => ?_
    ·refine brc H (fun h H => ?_) fun h H => ?_
     ·cases hr.trans H.symm
      exact ⟨rfl, hB⟩
     refine ⟨_, _, _, (O10.a 0), _, _, _, (O10.a 1), _, _, _, (O10.a 2), _, (O10.a 3), _, (O10.a 4), ?_⟩
     obtain ⟨hp144, H⟩ := H
     obtain ⟨r142, hr143, H⟩ := qa9 H
     refine (qay.con hp144 hr143 O7.row O7.le O8.row O8.le O9.row O9.le).mono ?_
     rintro _ w145 ⟨rfl, e146⟩
     have hB := ethen hB e146
     refine ⟨r142, rfl, ?_⟩
     cases hr.trans H.symm
     exact ⟨rfl, hB⟩
    cases hr.trans H.symm
    exact ⟨rfl, hB⟩
   refine brc H (fun h H => ?_) fun h H => ?_
   ·refine ⟨_, (O10.a 4), _, (O5.a 4), ?_⟩
    refine brc H (fun h H => ?_) fun h H => ?_
    ·refine brc H (fun h H => ?_) fun h H => ?_
     ·cases hr.trans H.symm
      exact ⟨rfl, hB⟩
     refine ⟨_, _, _, (O10.a 0), _, _, _, (O10.a 1), _, _, _, (O10.a 2), _, (O10.a 3), _, (O10.a 4), ?_⟩
     obtain ⟨hp152, H⟩ := H
     obtain ⟨r150, hr151, H⟩ := qa9 H
     refine (qay.con hp152 hr151 O7.row O7.le O8.row O8.le O9.row O9.le).mono ?_
     rintro _ w153 ⟨rfl, e154⟩
     have hB := ethen hB e154
     refine ⟨r150, rfl, ?_⟩
     cases hr.trans H.symm
     exact ⟨rfl, hB⟩
    refine ⟨_, (O10.a 3), ?_⟩
    refine brc H (fun h H => ?_) fun h H => ?_
    ·refine brc H (fun h H => ?_) fun h H => ?_
     ·cases hr.trans H.symm
      exact ⟨rfl, hB⟩
     refine ⟨_, _, _, (O10.a 0), _, _, _, (O10.a 1), _, _, _, (O10.a 2), _, (O10.a 3), _, (O10.a 4), ?_⟩
     obtain ⟨hp158, H⟩ := H
     obtain ⟨r156, hr157, H⟩ := qa9 H
     refine (qay.con hp158 hr157 O7.row O7.le O8.row O8.le O9.row O9.le).mono ?_
     rintro _ w159 ⟨rfl, e160⟩
     have hB := ethen hB e160
     refine ⟨r156, rfl, ?_⟩
     cases hr.trans H.symm
     exact ⟨rfl, hB⟩
    cases hr.trans H.symm
    exact ⟨rfl, hB⟩
   refine ⟨_, _, _, (O10.a 2), _, _, _, (O5.a 2), ?_⟩
   obtain ⟨hp166, H⟩ := H
   obtain ⟨r164, hr165, H⟩ := qa9 H
   refine (qbx.con hp166 hr165 O9.row O9.le O4.row O4.le).mono ?_
   rintro _ w167 ⟨rfl, e168⟩
   have O5 := O5.ext e168
   have O7 := O7.ext e168
   have O8 := O8.ext e168
   have O9 := O9.ext e168
   have O10 := O10.ext e168
   have hB := ethen hB e168
   refine ⟨r164, rfl, ?_⟩
   refine brc H (fun h H => ?_) fun h H => ?_
   ·refine ⟨_, (O10.a 4), _, (O5.a 4), ?_⟩
    refine brc H (fun h H => ?_) fun h H => ?_
    ·refine brc H (fun h H => ?_) fun h H => ?_
     ·cases hr.trans H.symm
      exact ⟨rfl, hB⟩
     refine ⟨_, _, _, (O10.a 0), _, _, _, (O10.a 1), _, _, _, (O10.a 2), _, (O10.a 3), _, (O10.a 4), ?_⟩
     obtain ⟨hp171, H⟩ := H
     obtain ⟨r169, hr170, H⟩ := qa9 H
     refine (qay.con hp171 hr170 O7.row O7.le O8.row O8.le O9.row O9.le).mono ?_
     rintro _ w172 ⟨rfl, e173⟩
     have hB := ethen hB e173
     refine ⟨r169, rfl, ?_⟩
     cases hr.trans H.symm
     exact ⟨rfl, hB⟩
    refine ⟨_, (O10.a 3), ?_⟩
    refine brc H (fun h H => ?_) fun h H => ?_
    ·refine brc H (fun h H => ?_) fun h H => ?_
     ·cases hr.trans H.symm
      exact ⟨rfl, hB⟩
     refine ⟨_, _, _, (O10.a 0), _, _, _, (O10.a 1), _, _, _, (O10.a 2), _, (O10.a 3), _, (O10.a 4), ?_⟩
     obtain ⟨hp177, H⟩ := H
     obtain ⟨r175, hr176, H⟩ := qa9 H
     refine (qay.con hp177 hr176 O7.row O7.le O8.row O8.le O9.row O9.le).mono ?_
     rintro _ w178 ⟨rfl, e179⟩
     have hB := ethen hB e179
     refine ⟨r175, rfl, ?_⟩
     cases hr.trans H.symm
     exact ⟨rfl, hB⟩
    cases hr.trans H.symm
    exact ⟨rfl, hB⟩
   cases hr.trans H.symm
   exact ⟨rfl, hB⟩
  cases hr.trans H.symm
  exact ⟨rfl, hB⟩
 cases hr.trans H.symm
 exact ⟨rfl, hB⟩
end Go.V
