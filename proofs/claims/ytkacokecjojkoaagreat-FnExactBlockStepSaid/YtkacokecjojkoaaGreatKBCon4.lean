import Derived.Test.YtkacokecjojkoaaGreatKBCon3
namespace Go.V
open Go.Proofs
open IntKind (wrap)
set_option linter.unusedVariables false
set_option linter.unusedSimpArgs false
set_option maxRecDepth 100000
def laws_FnExactBlockStep.vc (A0_0 : OA) (n0_0 c0_0 : Nat) (A0_1 : OA) (n0_1 c0_1 : Nat) (A0_2 : OA) (n0_2 c0_2 : Nat) (x0_3 x0_4 x1 : Int) (w : World) (K : VK) : Prop :=
  newK w (.cells #[(sv A0_0 n0_0 c0_0), (sv A0_1 n0_1 c0_1), (sv A0_2 n0_2 c0_2), (iv x0_3), (iv x0_4)] 53) fun g21 w22 => ldS w22 ((bx g21).add 0) fun A23 n24 c25 => ldS w22 ((bx g21).add 1) fun A26 n27 c28 => ldS w22 ((bx g21).add 2) fun A29 n30 c31 => ldI w22 ((bx g21).add 3) fun n32 => ldI w22 ((bx g21).add 4) fun n33 => Cl 37 #[(.agg #[(sv A23 n24 c25), (sv A26 n27 c28), (sv A29 n30 c31), (iv n32), (iv n33)]), (iv 1048576)] w22 fun v34 w35 => (∃ (n36 : Int), v34 = (iv n36) ∧ bcase (decide (n36 < 0)) (K (.bool true) w35) (ldS w35 ((bx g21).add 0) fun A37 n38 c39 => ldS w35 ((bx g21).add 1) fun A40 n41 c42 => ldS w35 ((bx g21).add 2) fun A43 n44 c45 => ldI w35 ((bx g21).add 3) fun n46 => ldI w35 ((bx g21).add 4) fun n47 => Cl 39 #[(.agg #[(sv A37 n38 c39), (sv A40 n41 c42), (sv A43 n44 c45), (iv n46), (iv n47)])] w35 fun v48 w49 => (∃ (A50 : OA) (n51 c52 : Nat), True ∧ ∃ (A53 : OA) (n54 c55 : Nat), True ∧ ∃ (A56 : OA) (n57 c58 : Nat), True ∧ ∃ (n59 : Int), True ∧ ∃ (n60 : Int), True ∧ v48 = (.agg #[(sv A50 n51 c52), (sv A53 n54 c55), (sv A56 n57 c58), (iv n59), (iv n60)]) ∧ Cl 46 #[(.agg #[(sv A50 n51 c52), (sv A53 n54 c55), (sv A56 n57 c58), (iv n59), (iv n60)]), (iv x1)] w49 fun v61 w62 => (∃ u63 : Value, (∃ (A64 : OA) (n65 c66 : Nat), True ∧ ∃ (A67 : OA) (n68 c69 : Nat), True ∧ ∃ (A70 : OA) (n71 c72 : Nat), True ∧ ∃ (n73 : Int), True ∧ ∃ (n74 : Int), True ∧ u63 = (.agg #[(sv A64 n65 c66), (sv A67 n68 c69), (sv A70 n71 c72), (iv n73), (iv n74)]) ∧ ∃ u75 : Value, (∃ (b76 : Bool), u75 = (.bool b76) ∧ v61 = (.tuple #[(.agg #[(sv A64 n65 c66), (sv A67 n68 c69), (sv A70 n71 c72), (iv n73), (iv n74)]), (.bool b76)]) ∧ newK w62 (.cells #[(sv none 0 0), (sv none 0 0), (sv none 0 0), (iv 0), (iv 0)] 59) fun g77 w78 => stCells (bx g77) [(sv A64 n65 c66), (sv A67 n68 c69), (sv A70 n71 c72), (iv n73), (iv n74)] 0 w78 fun w79 => ldS w79 ((bx g21).add 0) fun A80 n81 c82 => ldS w79 ((bx g21).add 1) fun A83 n84 c85 => ldS w79 ((bx g21).add 2) fun A86 n87 c88 => ldI w79 ((bx g21).add 3) fun n89 => ldI w79 ((bx g21).add 4) fun n90 => Cl 39 #[(.agg #[(sv A80 n81 c82), (sv A83 n84 c85), (sv A86 n87 c88), (iv n89), (iv n90)])] w79 fun v91 w92 => (∃ (A93 : OA) (n94 c95 : Nat), True ∧ ∃ (A96 : OA) (n97 c98 : Nat), True ∧ ∃ (A99 : OA) (n100 c101 : Nat), True ∧ ∃ (n102 : Int), True ∧ ∃ (n103 : Int), True ∧ v91 = (.agg #[(sv A93 n94 c95), (sv A96 n97 c98), (sv A99 n100 c101), (iv n102), (iv n103)]) ∧ newK w92 (.cells #[(sv none 0 0), (sv none 0 0), (sv none 0 0), (iv 0), (iv 0)] 59) fun g104 w105 => stCells (bx g104) [(sv A93 n94 c95), (sv A96 n97 c98), (sv A99 n100 c101), (iv n102), (iv n103)] 0 w105 fun w106 => ldS w106 ((bx g104).add 0) fun A107 n108 c109 => ldS w106 ((bx g104).add 1) fun A110 n111 c112 => ldS w106 ((bx g104).add 2) fun A113 n114 c115 => ldI w106 ((bx g104).add 3) fun n116 => ldI w106 ((bx g104).add 4) fun n117 => Cl 47 #[(.agg #[(sv A107 n108 c109), (sv A110 n111 c112), (sv A113 n114 c115), (iv n116), (iv n117)]), (iv x1)] w106 fun v118 w119 => (∃ u120 : Value, (∃ (A121 : OA) (n122 c123 : Nat), True ∧ ∃ (A124 : OA) (n125 c126 : Nat), True ∧ ∃ (A127 : OA) (n128 c129 : Nat), True ∧ ∃ (n130 : Int), True ∧ ∃ (n131 : Int), True ∧ u120 = (.agg #[(sv A121 n122 c123), (sv A124 n125 c126), (sv A127 n128 c129), (iv n130), (iv n131)]) ∧ ∃ u132 : Value, (∃ (b133 : Bool), u132 = (.bool b133) ∧ v118 = (.tuple #[(.agg #[(sv A121 n122 c123), (sv A124 n125 c126), (sv A127 n128 c129), (iv n130), (iv n131)]), (.bool b133)]) ∧ newK w119 (.cells #[(sv none 0 0), (sv none 0 0), (sv none 0 0), (iv 0), (iv 0)] 59) fun g134 w135 => stCells (bx g134) [(sv A121 n122 c123), (sv A124 n125 c126), (sv A127 n128 c129), (iv n130), (iv n131)] 0 w135 fun w136 => ldS w136 ((bx g134).add 0) fun A138 n139 c140 => ldS w136 ((bx g134).add 1) fun A141 n142 c143 => ldS w136 ((bx g134).add 2) fun A144 n145 c146 => ldI w136 ((bx g134).add 3) fun n147 => ldI w136 ((bx g134).add 4) fun n148 => ldS w136 ((bx g77).add 0) fun A149 n150 c151 => ldS w136 ((bx g77).add 1) fun A152 n153 c154 => ldS w136 ((bx g77).add 2) fun A155 n156 c157 => ldI w136 ((bx g77).add 3) fun n158 => ldI w136 ((bx g77).add 4) fun n159 => Cl 42 #[(.agg #[(sv A138 n139 c140), (sv A141 n142 c143), (sv A144 n145 c146), (iv n147), (iv n148)]), (.agg #[(sv A149 n150 c151), (sv A152 n153 c154), (sv A155 n156 c157), (iv n158), (iv n159)])] w136 fun v160 w161 => (∃ (b162 : Bool), v160 = (.bool b162) ∧ bcase (!b162) (K (.bool false) w161) (bcase (!(b133 == b76)) (K (.bool false) w161) ((∃ M163 : Nat → Prop, ldSM M163 w161 (bx g104) 0 fun A164 n165 c166 => ldSM M163 w161 (bx g104) 1 fun A167 n168 c169 => ldSM M163 w161 (bx g104) 2 fun A170 n171 c172 => ldIM M163 w161 (bx g104) 3 fun n173 => ldIM M163 w161 (bx g104) 4 fun n174 => ldSM M163 w161 (bx g21) 0 fun A175 n176 c177 => ldSM M163 w161 (bx g21) 1 fun A178 n179 c180 => ldSM M163 w161 (bx g21) 2 fun A181 n182 c183 => ldIM M163 w161 (bx g21) 3 fun n184 => ldIM M163 w161 (bx g21) 4 fun n185 => Cl 39 #[(.agg #[(sv A175 n176 c177), (sv A178 n179 c180), (sv A181 n182 c183), (iv n184), (iv n185)])] w161.drew fun v186 w187 => (∃ (A188 : OA) (n189 c190 : Nat), True ∧ ∃ (A191 : OA) (n192 c193 : Nat), True ∧ ∃ (A194 : OA) (n195 c196 : Nat), True ∧ ∃ (n197 : Int), True ∧ ∃ (n198 : Int), True ∧ v186 = (.agg #[(sv A188 n189 c190), (sv A191 n192 c193), (sv A194 n195 c196), (iv n197), (iv n198)]) ∧ SameBut M163 w161 w187 ∧ Cl 42 #[(.agg #[(sv A164 n165 c166), (sv A167 n168 c169), (sv A170 n171 c172), (iv n173), (iv n174)]), (.agg #[(sv A188 n189 c190), (sv A191 n192 c193), (sv A194 n195 c196), (iv n197), (iv n198)])] w187 fun v199 w200 => (∃ (b201 : Bool), v199 = (.bool b201) ∧ SameBut M163 w161 w200 ∧ bcase (!b201) (K (.bool false) w200) (ldS w200 ((bx g104).add 0) fun A202 n203 c204 => ldS w200 ((bx g104).add 1) fun A205 n206 c207 => ldS w200 ((bx g104).add 2) fun A208 n209 c210 => ldI w200 ((bx g104).add 3) fun n211 => ldI w200 ((bx g104).add 4) fun n212 => Cl 43 #[(.agg #[(sv A202 n203 c204), (sv A205 n206 c207), (sv A208 n209 c210), (iv n211), (iv n212)]), (iv 1)] w200 fun v213 w214 => (∃ (n215 : Int), v213 = (iv n215) ∧ bcase (decide (n215 < 0)) (K (.bool false) w214) (ldS w214 ((bx g134).add 0) fun A217 n218 c219 => ldS w214 ((bx g134).add 1) fun A220 n221 c222 => ldS w214 ((bx g134).add 2) fun A223 n224 c225 => ldI w214 ((bx g134).add 3) fun n226 => ldI w214 ((bx g134).add 4) fun n227 => ldS w214 ((bx g77).add 0) fun A228 n229 c230 => ldS w214 ((bx g77).add 1) fun A231 n232 c233 => ldS w214 ((bx g77).add 2) fun A234 n235 c236 => ldI w214 ((bx g77).add 3) fun n237 => ldI w214 ((bx g77).add 4) fun n238 => Cl 42 #[(.agg #[(sv A217 n218 c219), (sv A220 n221 c222), (sv A223 n224 c225), (iv n226), (iv n227)]), (.agg #[(sv A228 n229 c230), (sv A231 n232 c233), (sv A234 n235 c236), (iv n237), (iv n238)])] w214 fun v239 w240 => (∃ (b241 : Bool), v239 = (.bool b241) ∧ bcase (!b241) (K (.bool false) w240) (bcase (!(b133 == b76)) (K (.bool false) w240) (ldS w240 ((bx g134).add 0) fun A242 n243 c244 => ldS w240 ((bx g134).add 1) fun A245 n246 c247 => ldS w240 ((bx g134).add 2) fun A248 n249 c250 => ldI w240 ((bx g134).add 3) fun n251 => ldI w240 ((bx g134).add 4) fun n252 => Cl 43 #[(.agg #[(sv A242 n243 c244), (sv A245 n246 c247), (sv A248 n249 c250), (iv n251), (iv n252)]), (iv 1)] w240 fun v253 w254 => (∃ (n255 : Int), v253 = (iv n255) ∧ ldS w254 ((bx g134).add 0) fun A256 n257 c258 => ldS w254 ((bx g134).add 1) fun A259 n260 c261 => ldS w254 ((bx g134).add 2) fun A262 n263 c264 => ldI w254 ((bx g134).add 3) fun n265 => ldI w254 ((bx g134).add 4) fun n266 => Cl 48 #[(.agg #[(sv A256 n257 c258), (sv A259 n260 c261), (sv A262 n263 c264), (iv n265), (iv n266)]), (iv 1)] w254 fun v267 w268 => (∃ (n269 : Int), v267 = (iv n269) ∧ bcase (decide (n269 < 0)) (K (.bool false) w268) (bcase (n269 != n255) (K (.bool false) w268) (ldS w268 ((bx g21).add 0) fun A270 n271 c272 => ldS w268 ((bx g21).add 1) fun A273 n274 c275 => ldS w268 ((bx g21).add 2) fun A276 n277 c278 => ldI w268 ((bx g21).add 3) fun n279 => ldI w268 ((bx g21).add 4) fun n280 => Cl 39 #[(.agg #[(sv A270 n271 c272), (sv A273 n274 c275), (sv A276 n277 c278), (iv n279), (iv n280)])] w268 fun v281 w282 => (∃ (A283 : OA) (n284 c285 : Nat), True ∧ ∃ (A286 : OA) (n287 c288 : Nat), True ∧ ∃ (A289 : OA) (n290 c291 : Nat), True ∧ ∃ (n292 : Int), True ∧ ∃ (n293 : Int), True ∧ v281 = (.agg #[(sv A283 n284 c285), (sv A286 n287 c288), (sv A289 n290 c291), (iv n292), (iv n293)]) ∧ Cl 47 #[(.agg #[(sv A283 n284 c285), (sv A286 n287 c288), (sv A289 n290 c291), (iv n292), (iv n293)]), (iv x1)] w282 fun v294 w295 => (∃ u296 : Value, (∃ (A297 : OA) (n298 c299 : Nat), True ∧ ∃ (A300 : OA) (n301 c302 : Nat), True ∧ ∃ (A303 : OA) (n304 c305 : Nat), True ∧ ∃ (n306 : Int), True ∧ ∃ (n307 : Int), True ∧ u296 = (.agg #[(sv A297 n298 c299), (sv A300 n301 c302), (sv A303 n304 c305), (iv n306), (iv n307)]) ∧ ∃ u308 : Value, (∃ (b309 : Bool), u308 = (.bool b309) ∧ v294 = (.tuple #[(.agg #[(sv A297 n298 c299), (sv A300 n301 c302), (sv A303 n304 c305), (iv n306), (iv n307)]), (.bool b309)]) ∧ newK w295 (.cells #[(sv none 0 0), (sv none 0 0), (sv none 0 0), (iv 0), (iv 0)] 59) fun g310 w311 => stCells (bx g310) [(sv A297 n298 c299), (sv A300 n301 c302), (sv A303 n304 c305), (iv n306), (iv n307)] 0 w311 fun w312 => ldS w312 ((bx g310).add 0) fun A314 n315 c316 => ldS w312 ((bx g310).add 1) fun A317 n318 c319 => ldS w312 ((bx g310).add 2) fun A320 n321 c322 => ldI w312 ((bx g310).add 3) fun n323 => ldI w312 ((bx g310).add 4) fun n324 => ldS w312 ((bx g77).add 0) fun A325 n326 c327 => ldS w312 ((bx g77).add 1) fun A328 n329 c330 => ldS w312 ((bx g77).add 2) fun A331 n332 c333 => ldI w312 ((bx g77).add 3) fun n334 => ldI w312 ((bx g77).add 4) fun n335 => Cl 42 #[(.agg #[(sv A314 n315 c316), (sv A317 n318 c319), (sv A320 n321 c322), (iv n323), (iv n324)]), (.agg #[(sv A325 n326 c327), (sv A328 n329 c330), (sv A331 n332 c333), (iv n334), (iv n335)])] w312 fun v336 w337 => (∃ (b338 : Bool), v336 = (.bool b338) ∧ bcase (!b338) (K (.bool false) w337) (bcase (!(b309 == b76)) (K (.bool false) w337) (ldS w337 ((bx g134).add 0) fun A339 n340 c341 => ldS w337 ((bx g134).add 1) fun A342 n343 c344 => ldS w337 ((bx g134).add 2) fun A345 n346 c347 => ldI w337 ((bx g134).add 3) fun n348 => ldI w337 ((bx g134).add 4) fun n349 => Cl 48 #[(.agg #[(sv A339 n340 c341), (sv A342 n343 c344), (sv A345 n346 c347), (iv n348), (iv n349)]), (iv 1)] w337 fun v350 w351 => (∃ (n352 : Int), v350 = (iv n352) ∧ bcase (decide (n352 < 0)) (K (.bool false) w351) (bcase (n352 != n255) (K (.bool false) w351) (K (.bool true) w351))))))))))))))))))))))))))))))))))))

def laws_FnExactBlockStep.ann : Ann := (.seq .l (.seq .l (.seq .l (.seq (.seq .l (.two (.seq .l .l) .l)) (.seq .l (.seq .l (.seq .l (.seq (.seq .l (.two (.seq .l .l) .l)) (.seq (.seq .l (.two (.seq .l .l) .l)) (.seq .l (.seq .l (.seq (.seq .l (.two (.seq .l .l) .l)) (.seq .l (.seq .l (.seq .l (.seq .l (.seq (.seq .l (.two (.seq .l .l) .l)) (.seq (.seq .l (.two (.seq .l .l) .l)) (.seq .l (.seq (.seq .l (.two (.seq .l .l) .l)) (.seq .l (.seq .l (.seq (.seq .l (.two (.seq .l .l) .l)) (.seq (.seq .l (.two (.seq .l .l) .l)) (.seq .l .l)))))))))))))))))))))))))

theorem laws_FnExactBlockStep.con {s0 : D.Block} {A0_0 : OA} {c0_0 : Nat} {A0_1 : OA} {c0_1 : Nat} {A0_2 : OA} {c0_2 : Nat} {x1 : Int} {r : Bool} {w : World} (hp : M.laws_FnExactBlockStep_pre s0 x1) (hr : r = M.laws_FnExactBlockStep s0 x1) (R0_0 : Row el91 w A0_0 s0.Code) (hc0_0 : s0.Code.length ≤ c0_0) (R0_1 : RowW 26 el134 el3 w A0_1 s0.Warps) (hc0_1 : s0.Warps.length ≤ c0_1) (R0_2 : Row el3 w A0_2 s0.Memory) (hc0_2 : s0.Memory.length ≤ c0_2) :
    Cl 10 #[(.agg #[(sv A0_0 s0.Code.length c0_0), (sv A0_1 s0.Warps.length c0_1), (sv A0_2 s0.Memory.length c0_2), (iv s0.Waiting), (iv s0.Phase)]), (iv x1)] w (fun v_ w_ => v_ = (.bool r) ∧ Ext w w_) := by
 have H := wp.laws_FnExactBlockStep.math s0 x1 hp
 refine begK mixed Tryz.f10 ann (vc A0_0 s0.Code.length c0_0 A0_1 s0.Warps.length c0_1 A0_2 s0.Memory.length c0_2 s0.Waiting s0.Phase x1) ?_
 unfold vc
 unfold wp.laws_FnExactBlockStep at H
 refine newBlk (fun g4_ w21 L4 O4 e22 => ?_)
 have hB := ethen (Ext.refl w) e22
 refine ⟨_, _, _, (O4.a 0), _, _, _, (O4.a 1), _, _, _, (O4.a 2), _, (O4.a 3), _, (O4.a 4), ?_⟩
 obtain ⟨hp25, H⟩ := H
 obtain ⟨r23, hr24, H⟩ := callO H
 refine (laws_szBlock.con hp25 hr24 (R0_0.ext hB) hc0_0 (R0_1.ext hB) hc0_1 (R0_2.ext hB) hc0_2).mono ?_
 rintro _ w26 ⟨rfl, e27⟩
 have O4 := O4.ext e27
 have hB := ethen hB e27
 refine ⟨r23, rfl, ?_⟩
 refine brc H (fun h H => ?_) fun h H => ?_
 ·cases hr.trans H.symm
  exact ⟨rfl, hB⟩
 refine ⟨_, _, _, (O4.a 0), _, _, _, (O4.a 1), _, _, _, (O4.a 2), _, (O4.a 3), _, (O4.a 4), ?_⟩
 obtain ⟨hp30, H⟩ := H
 obtain ⟨r28, hr29, H⟩ := callO H
 refine (laws_toBlock.con hp30 hr29 (R0_0.ext hB) hc0_0 (R0_1.ext hB) hc0_1 (R0_2.ext hB) hc0_2).mono ?_
 rintro _ w31 ⟨A33, c34, A35, c36, F39, A37, c38, rfl, P5, P6, P7, N6_7, e32⟩
 have O5 := P5.mono hB.size
 have O6 := P6.mono hB.size
 have O7 := P7.mono hB.size
 have hB := ethen hB e32
 refine ⟨A33, r28.Code.length, c34, trivial, A35, r28.Warps.length, c36, trivial, A37, r28.Memory.length, c38, trivial, r28.Waiting, trivial, r28.Phase, trivial, rfl, ?_⟩
 obtain ⟨hp42, H⟩ := H
 obtain ⟨r40, hr41, H⟩ := callO H
 refine (spec_BlockStep.con hp42 hr41 O5.row O5.le O6.row O6.le O7.row O7.le).mono ?_
 rintro _ w43 ⟨A45, c46, A47, c48, F51, A49, c50, rfl, P8, P9, P10, N9_10, e44⟩
 have O4 := (O4.ext e32).ext e44
 have O8 := P8.mono hB.size
 have O9 := P9.mono hB.size
 have O10 := P10.mono hB.size
 have hB := ethen hB e44
 refine ⟨(.agg #[(sv A45 r40.1.Code.length c46), (sv A47 r40.1.Warps.length c48), (sv A49 r40.1.Memory.length c50), (iv r40.1.Waiting), (iv r40.1.Phase)]), A45, r40.1.Code.length, c46, trivial, A47, r40.1.Warps.length, c48, trivial, A49, r40.1.Memory.length, c50, trivial, r40.1.Waiting, trivial, r40.1.Phase, trivial, rfl, (.bool r40.2), r40.2, rfl, rfl, ?_⟩
 refine newBlk (fun g11_ w52 L11 P11 e53 => ?_)
 have N4_11 := O4.ne L11
 have N8_11 := O8.apart_new L11
 have N9_11 := O9.dis_newbox L11
 have N10_11 := O10.apart_new L11
 have O4 := O4.ext e53
 have O8 := O8.ext e53
 have O9 := O9.ext e53
 have O10 := O10.ext e53
 have O11 := P11
 have L11 := Nat.le_trans hB.size L11
 have hB := ethen hB e53
 refine stBlk O11 (o := 0) (cs' := #[(sv A45 r40.1.Code.length c46), (sv A47 r40.1.Warps.length c48), (sv A49 r40.1.Memory.length c50), (iv r40.1.Waiting), (iv r40.1.Phase)]) rfl rfl (Nat.le_of_ble_eq_true rfl) rfl (fun w54 O11 e55 => ?_)
 have O4_ := O4.chg e55 N4_11
 have O8_ := O8.chg e55 N8_11
 have O9_ := O9.chg e55 N9_11
 have O10_ := O10.chg e55 N10_11
 have O4 := O4_
 have O8 := O8_
 have O9 := O9_
 have O10 := O10_
 have hB := echg hB e55 L11
 refine ⟨_, _, _, (O4.a 0), _, _, _, (O4.a 1), _, _, _, (O4.a 2), _, (O4.a 3), _, (O4.a 4), ?_⟩
 obtain ⟨hp58, H⟩ := H
 obtain ⟨r56, hr57, H⟩ := callO H
 refine (laws_toBlock.con hp58 hr57 (R0_0.ext hB) hc0_0 (R0_1.ext hB) hc0_1 (R0_2.ext hB) hc0_2).mono ?_
 rintro _ w59 ⟨A61, c62, A63, c64, F67, A65, c66, rfl, P12, P13, P14, N13_14, e60⟩
 have N12_4 := P12.apart_old O4.lt
 have N8_12 := Own.apart2_new O8 P12 (Nat.le_refl _)
 have N9_12 := O9.dis_new P12 (Nat.le_refl _)
 have N10_12 := Own.apart2_new O10 P12 (Nat.le_refl _)
 have N12_11 := P12.apart_old O11.lt
 have N13_4 := P13.new_disbox O4 (Nat.le_refl _)
 have N13_8 := P13.new_dis O8 (Nat.le_refl _)
 have N9_13 := O9.dis_neww P13 (Nat.le_refl _)
 have N13_10 := P13.new_dis O10 (Nat.le_refl _)
 have N13_11 := P13.new_disbox O11 (Nat.le_refl _)
 have N14_4 := P14.apart_old O4.lt
 have N8_14 := Own.apart2_new O8 P14 (Nat.le_refl _)
 have N9_14 := O9.dis_new P14 (Nat.le_refl _)
 have N10_14 := Own.apart2_new O10 P14 (Nat.le_refl _)
 have N14_11 := P14.apart_old O11.lt
 have O4 := O4.ext e60
 have O8 := O8.ext e60
 have O9 := O9.ext e60
 have O10 := O10.ext e60
 have O11 := O11.ext e60
 have O12 := P12.mono hB.size
 have O13 := P13.mono hB.size
 have O14 := P14.mono hB.size
 have hB := ethen hB e60
 refine ⟨A61, r56.Code.length, c62, trivial, A63, r56.Warps.length, c64, trivial, A65, r56.Memory.length, c66, trivial, r56.Waiting, trivial, r56.Phase, trivial, rfl, ?_⟩
 refine newBlk (fun g15_ w68 L15 P15 e69 => ?_)
 have N4_15 := O4.ne L15
 have N8_15 := O8.apart_new L15
 have N9_15 := O9.dis_newbox L15
 have N10_15 := O10.apart_new L15
 have N11_15 := O11.ne L15
 have N12_15 := O12.apart_new L15
 have N13_15 := O13.dis_newbox L15
 have N14_15 := O14.apart_new L15
 have O4 := O4.ext e69
 have O8 := O8.ext e69
 have O9 := O9.ext e69
 have O10 := O10.ext e69
 have O11 := O11.ext e69
 have O12 := O12.ext e69
 have O13 := O13.ext e69
 have O14 := O14.ext e69
 have O15 := P15
 have L15 := Nat.le_trans hB.size L15
 have hB := ethen hB e69
 refine stBlk O15 (o := 0) (cs' := #[(sv A61 r56.Code.length c62), (sv A63 r56.Warps.length c64), (sv A65 r56.Memory.length c66), (iv r56.Waiting), (iv r56.Phase)]) rfl rfl (Nat.le_of_ble_eq_true rfl) rfl (fun w70 O15 e71 => ?_)
 have O4_ := O4.chg e71 N4_15
 have O8_ := O8.chg e71 N8_15
 have O9_ := O9.chg e71 N9_15
 have O10_ := O10.chg e71 N10_15
 have O11_ := O11.chg e71 N11_15
 have O12_ := O12.chg e71 N12_15
 have O13_ := O13.chg e71 N13_15
 have O14_ := O14.chg e71 N14_15
 have O4 := O4_
 have O8 := O8_
 have O9 := O9_
 have O10 := O10_
 have O11 := O11_
 have O12 := O12_
 have O13 := O13_
 have O14 := O14_
 have hB := echg hB e71 L15
 refine ⟨_, _, _, (O15.a 0), _, _, _, (O15.a 1), _, _, _, (O15.a 2), _, (O15.a 3), _, (O15.a 4), ?_⟩
 obtain ⟨hp74, H⟩ := H
 obtain ⟨r72, hr73, H⟩ := callO H
 refine (impl_BlockStep.con hp74 hr73 O12.row O12.le O13.row O13.le O14.row O14.le).mono ?_
 rintro _ w75 ⟨A77, c78, A79, c80, F83, A81, c82, rfl, P16, P17, P18, N17_18, e76⟩
 have N16_4 := P16.apart_old O4.lt
 have N8_16 := Own.apart2_new O8 P16 (Nat.le_refl _)
 have N9_16 := O9.dis_new P16 (Nat.le_refl _)
 have N10_16 := Own.apart2_new O10 P16 (Nat.le_refl _)
 have N16_11 := P16.apart_old O11.lt
 have N12_16 := Own.apart2_new O12 P16 (Nat.le_refl _)
 have N13_16 := O13.dis_new P16 (Nat.le_refl _)
 have N14_16 := Own.apart2_new O14 P16 (Nat.le_refl _)
 have N17_4 := P17.new_disbox O4 (Nat.le_refl _)
 have N17_8 := P17.new_dis O8 (Nat.le_refl _)
 have N9_17 := O9.dis_neww P17 (Nat.le_refl _)
 have N17_10 := P17.new_dis O10 (Nat.le_refl _)
 have N17_11 := P17.new_disbox O11 (Nat.le_refl _)
 have N17_12 := P17.new_dis O12 (Nat.le_refl _)
 have N13_17 := O13.dis_neww P17 (Nat.le_refl _)
 have N17_14 := P17.new_dis O14 (Nat.le_refl _)
 have N18_4 := P18.apart_old O4.lt
 have N8_18 := Own.apart2_new O8 P18 (Nat.le_refl _)
 have N9_18 := O9.dis_new P18 (Nat.le_refl _)
 have N10_18 := Own.apart2_new O10 P18 (Nat.le_refl _)
 have N18_11 := P18.apart_old O11.lt
 have N12_18 := Own.apart2_new O12 P18 (Nat.le_refl _)
 have N13_18 := O13.dis_new P18 (Nat.le_refl _)
 have N14_18 := Own.apart2_new O14 P18 (Nat.le_refl _)
 have O4 := O4.ext e76
 have O8 := O8.ext e76
 have O9 := O9.ext e76
 have O10 := O10.ext e76
 have O11 := O11.ext e76
 have O12 := O12.ext e76
 have O13 := O13.ext e76
 have O14 := O14.ext e76
 have O15 := O15.ext e76
 have O16 := P16.mono hB.size
 have O17 := P17.mono hB.size
 have O18 := P18.mono hB.size
 have hB := ethen hB e76
 refine ⟨(.agg #[(sv A77 r72.1.Code.length c78), (sv A79 r72.1.Warps.length c80), (sv A81 r72.1.Memory.length c82), (iv r72.1.Waiting), (iv r72.1.Phase)]), A77, r72.1.Code.length, c78, trivial, A79, r72.1.Warps.length, c80, trivial, A81, r72.1.Memory.length, c82, trivial, r72.1.Waiting, trivial, r72.1.Phase, trivial, rfl, (.bool r72.2), r72.2, rfl, rfl, ?_⟩
 refine newBlk (fun g19_ w84 L19 P19 e85 => ?_)
 have N4_19 := O4.ne L19
 have N8_19 := O8.apart_new L19
 have N9_19 := O9.dis_newbox L19
 have N10_19 := O10.apart_new L19
 have N11_19 := O11.ne L19
 have N12_19 := O12.apart_new L19
 have N13_19 := O13.dis_newbox L19
 have N14_19 := O14.apart_new L19
 have N15_19 := O15.ne L19
 have N16_19 := O16.apart_new L19
 have N17_19 := O17.dis_newbox L19
 have N18_19 := O18.apart_new L19
 have O4 := O4.ext e85
 have O8 := O8.ext e85
 have O9 := O9.ext e85
 have O10 := O10.ext e85
 have O11 := O11.ext e85
 have O16 := O16.ext e85
 have O17 := O17.ext e85
 have O18 := O18.ext e85
 have O19 := P19
 have L19 := Nat.le_trans hB.size L19
 have hB := ethen hB e85
 refine stBlk O19 (o := 0) (cs' := #[(sv A77 r72.1.Code.length c78), (sv A79 r72.1.Warps.length c80), (sv A81 r72.1.Memory.length c82), (iv r72.1.Waiting), (iv r72.1.Phase)]) rfl rfl (Nat.le_of_ble_eq_true rfl) rfl (fun w86 O19 e87 => ?_)
 have O4_ := O4.chg e87 N4_19
 have O8_ := O8.chg e87 N8_19
 have O9_ := O9.chg e87 N9_19
 have O10_ := O10.chg e87 N10_19
 have O11_ := O11.chg e87 N11_19
 have O16_ := O16.chg e87 N16_19
 have O17_ := O17.chg e87 N17_19
 have O18_ := O18.chg e87 N18_19
 have O8 := O8_
 have O9 := O9_
 have O10 := O10_
 have O11 := O11_
 have O16 := O16_
 have O17 := O17_
 have O18 := O18_
 refine ⟨_, _, _, (O19.a 0), _, _, _, (O19.a 1), _, _, _, (O19.a 2), _, (O19.a 3), _, (O19.a 4), _, _, _, (O11.a 0), _, _, _, (O11.a 1), _, _, _, (O11.a 2), _, (O11.a 3), _, (O11.a 4), ?_⟩
 obtain ⟨hp90, H⟩ := H
 obtain ⟨r88, hr89, H⟩ := callO H
 refine (laws_eqBlock.con hp90 hr89 O16.row O16.le O17.row O17.le O18.row O18.le O8.row O8.le O9.row O9.le O10.row O10.le).mono ?_
 rintro _ w91 ⟨rfl, e92⟩
 have O4 := O4_.ext e92
 have O8 := O8.ext e92
 have O9 := O9.ext e92
 have O10 := O10.ext e92
 have O11 := O11.ext e92
 have O12 := ((O12.ext e85).chg e87 N12_19).ext e92
 have O13 := ((O13.ext e85).chg e87 N13_19).ext e92
 have O14 := ((O14.ext e85).chg e87 N14_19).ext e92
 have O15 := ((O15.ext e85).chg e87 N15_19).ext e92
 have O16 := O16.ext e92
 have O17 := O17.ext e92
 have O18 := O18.ext e92
 have O19 := O19.ext e92
 have hB := ethen (echg hB e87 L19) e92
 refine ⟨r88, rfl, ?_⟩
 refine brc H (fun h H => ?_) fun h H => ?_
 ·cases hr.trans H.symm
  exact ⟨rfl, hB⟩
 refine brc H (fun h H => ?_) fun h H => ?_
 ·cases hr.trans H.symm
  exact ⟨rfl, hB⟩
 refine ⟨(fun _ => False), _, _, _, noM (O15.a 0), _, _, _, noM (O15.a 1), _, _, _, noM (O15.a 2), _, noM (O15.a 3), _, noM (O15.a 4), _, _, _, noM (O4.a 0), _, _, _, noM (O4.a 1), _, _, _, noM (O4.a 2), _, noM (O4.a 3), _, noM (O4.a 4), ?_⟩
 have O4 := O4.ext (Ext.drew _)
 have O8 := O8.ext (Ext.drew _)
 have O9 := O9.ext (Ext.drew _)
 have O10 := O10.ext (Ext.drew _)
 have O11 := O11.ext (Ext.drew _)
 have O12 := O12.ext (Ext.drew _)
 have O13 := O13.ext (Ext.drew _)
 have O14 := O14.ext (Ext.drew _)
 have O15 := O15.ext (Ext.drew _)
 have O16 := O16.ext (Ext.drew _)
 have O17 := O17.ext (Ext.drew _)
 have O18 := O18.ext (Ext.drew _)
 have O19 := O19.ext (Ext.drew _)
 have hB := ethen hB (Ext.drew _)
 have hS93 := (Chg.refl (fun _ => False) w91).then (Ext.drew _)
 obtain ⟨hp96, H⟩ := H
 obtain ⟨r94, hr95, H⟩ := callO H
 refine (laws_toBlock.con hp96 hr95 (R0_0.ext hB) hc0_0 (R0_1.ext hB) hc0_1 (R0_2.ext hB) hc0_2).mono ?_
 rintro _ w97 ⟨A99, c100, A101, c102, F105, A103, c104, rfl, P20, P21, P22, N21_22, e98⟩
 have O12 := O12.ext e98
 have O13 := O13.ext e98
 have O14 := O14.ext e98
 have O20 := P20.mono hB.size
 have O21 := P21.mono hB.size
 have O22 := P22.mono hB.size
 have hS93 := hS93.then e98
 refine ⟨A99, r94.Code.length, c100, trivial, A101, r94.Warps.length, c102, trivial, A103, r94.Memory.length, c104, trivial, r94.Waiting, trivial, r94.Phase, trivial, rfl, sameBut_chg hS93, ?_⟩
 obtain ⟨hp108, H⟩ := H
 obtain ⟨r106, hr107, H⟩ := callO H
 refine (laws_eqBlock.con hp108 hr107 O12.row O12.le O13.row O13.le O14.row O14.le O20.row O20.le O21.row O21.le O22.row O22.le).mono ?_
 rintro _ w109 ⟨rfl, e110⟩
 have O4 := (O4.ext e98).ext e110
 have O8 := (O8.ext e98).ext e110
 have O9 := (O9.ext e98).ext e110
 have O10 := (O10.ext e98).ext e110
 have O11 := (O11.ext e98).ext e110
 have O12 := O12.ext e110
 have O13 := O13.ext e110
 have O14 := O14.ext e110
 have O15 := (O15.ext e98).ext e110
 have O16 := (O16.ext e98).ext e110
 have O17 := (O17.ext e98).ext e110
 have O18 := (O18.ext e98).ext e110
 have O19 := (O19.ext e98).ext e110
 have hB := ethen (ethen hB e98) e110
 have hS93 := hS93.then e110
 refine ⟨r106, rfl, sameBut_chg hS93, ?_⟩
 refine brc H (fun h H => ?_) fun h H => ?_
 ·cases hr.trans H.symm
  exact ⟨rfl, hB⟩
 refine ⟨_, _, _, (O15.a 0), _, _, _, (O15.a 1), _, _, _, (O15.a 2), _, (O15.a 3), _, (O15.a 4), ?_⟩
 obtain ⟨hp113, H⟩ := H
 obtain ⟨r111, hr112, H⟩ := callO H
 refine (laws_markBlock.con hp113 hr112 (O12.mono (Nat.zero_le _)) (O13.mono (Nat.zero_le _)) (O14.mono (Nat.zero_le _)) N13_14).mono ?_
 rintro _ w114 ⟨rfl, Q12, hl116, Q13, hl117, Q14, hl118, e115⟩
 have O4 := O4.chgS e115 (fun hS_ => hS_.elim (N12_4).inb (fun hS_ => hS_.elim N13_4 (N14_4).inb))
 have O8 := O8.chgS e115 (fun g h_ => (fun hS_ => hS_.elim ((N8_12).inb g h_) (fun hS_ => hS_.elim ((N13_8).symm g h_) ((N8_14).inb g h_))))
 have O9 := O9.kept e115 (fun g h_ => (fun hS_ => hS_.elim (N9_12 g h_) (fun hS_ => hS_.elim (N9_13 g h_) (N9_14 g h_))))
 have O10 := O10.chgS e115 (fun g h_ => (fun hS_ => hS_.elim ((N10_12).inb g h_) (fun hS_ => hS_.elim ((N13_10).symm g h_) ((N10_14).inb g h_))))
 have O11 := O11.chgS e115 (fun hS_ => hS_.elim (N12_11).inb (fun hS_ => hS_.elim N13_11 (N14_11).inb))
 have O16 := O16.chgS e115 (fun g h_ => (fun hS_ => hS_.elim (((N12_16).symm).inb g h_) (fun hS_ => hS_.elim ((N13_16).symm g h_) (((N14_16).symm).inb g h_))))
 have O17 := O17.kept e115 (fun g h_ => (fun hS_ => hS_.elim (N17_12 g h_) (fun hS_ => hS_.elim ((N13_17).symm g h_) (N17_14 g h_))))
 have O18 := O18.chgS e115 (fun g h_ => (fun hS_ => hS_.elim (((N12_18).symm).inb g h_) (fun hS_ => hS_.elim ((N13_18).symm g h_) (((N14_18).symm).inb g h_))))
 have O19 := O19.chgS e115 (fun hS_ => hS_.elim (N12_19).inb (fun hS_ => hS_.elim N13_19 (N14_19).inb))
 have hB := Chg.ext hB e115 (fun g => (fun hS_ => hS_.elim (O12.low g) (fun hS_ => hS_.elim (O13.lowW g) (O14.low g))))
 refine ⟨r111.1, rfl, ?_⟩
 refine brc H (fun h H => ?_) fun h H => ?_
 ·cases hr.trans H.symm
  exact ⟨rfl, hB⟩
 refine ⟨_, _, _, (O19.a 0), _, _, _, (O19.a 1), _, _, _, (O19.a 2), _, (O19.a 3), _, (O19.a 4), _, _, _, (O11.a 0), _, _, _, (O11.a 1), _, _, _, (O11.a 2), _, (O11.a 3), _, (O11.a 4), ?_⟩
 obtain ⟨hp121, H⟩ := H
 obtain ⟨r119, hr120, H⟩ := callO H
 refine (laws_eqBlock.con hp121 hr120 O16.row O16.le O17.row O17.le O18.row O18.le O8.row O8.le O9.row O9.le O10.row O10.le).mono ?_
 rintro _ w122 ⟨rfl, e123⟩
 have O4 := O4.ext e123
 have O8 := O8.ext e123
 have O9 := O9.ext e123
 have O10 := O10.ext e123
 have O11 := O11.ext e123
 have O16 := O16.ext e123
 have O17 := O17.ext e123
 have O18 := O18.ext e123
 have O19 := O19.ext e123
 have hB := ethen hB e123
 refine ⟨r119, rfl, ?_⟩
 refine brc H (fun h H => ?_) fun h H => ?_
 ·cases hr.trans H.symm
  exact ⟨rfl, hB⟩
 refine brc H (fun h H => ?_) fun h H => ?_
 ·cases hr.trans H.symm
  exact ⟨rfl, hB⟩
 refine ⟨_, _, _, (O19.a 0), _, _, _, (O19.a 1), _, _, _, (O19.a 2), _, (O19.a 3), _, (O19.a 4), ?_⟩
 obtain ⟨hp126, H⟩ := H
 obtain ⟨r124, hr125, H⟩ := callO H
 refine (laws_markBlock.con hp126 hr125 (O16.mono (Nat.zero_le _)) (O17.mono (Nat.zero_le _)) (O18.mono (Nat.zero_le _)) N17_18).mono ?_
 rintro _ w127 ⟨rfl, Q16, hl129, Q17, hl130, Q18, hl131, e128⟩
 have O19 := O19.chgS e128 (fun hS_ => hS_.elim (N16_19).inb (fun hS_ => hS_.elim N17_19 (N18_19).inb))
 have hB := Chg.ext hB e128 (fun g => (fun hS_ => hS_.elim (O16.low g) (fun hS_ => hS_.elim (O17.lowW g) (O18.low g))))
 have O16 := Q16.up O16
 have O17 := Q17.up O17
 have O18 := Q18.up O18
 refine ⟨r124.1, rfl, _, _, _, (O19.a 0), _, _, _, (O19.a 1), _, _, _, (O19.a 2), _, (O19.a 3), _, (O19.a 4), ?_⟩
 obtain ⟨hp134, H⟩ := H
 obtain ⟨r132, hr133, H⟩ := callO H
 refine (cllArgs (by first | (simp only [List.length_set, hl129, hl130, hl131]; done) | (simp; done)) (laws_heldBlock.con hp134 hr133 O16.row O16.le O17.row O17.le O18.row O18.le)).mono ?_
 rintro _ w135 ⟨rfl, e136⟩
 have O4 := (O4.chgS e128 (fun hS_ => hS_.elim (N16_4).inb (fun hS_ => hS_.elim N17_4 (N18_4).inb))).ext e136
 have O8 := (O8.chgS e128 (fun g h_ => (fun hS_ => hS_.elim ((N8_16).inb g h_) (fun hS_ => hS_.elim ((N17_8).symm g h_) ((N8_18).inb g h_))))).ext e136
 have O9 := (O9.kept e128 (fun g h_ => (fun hS_ => hS_.elim (N9_16 g h_) (fun hS_ => hS_.elim (N9_17 g h_) (N9_18 g h_))))).ext e136
 have O10 := (O10.chgS e128 (fun g h_ => (fun hS_ => hS_.elim ((N10_16).inb g h_) (fun hS_ => hS_.elim ((N17_10).symm g h_) ((N10_18).inb g h_))))).ext e136
 have O11 := (O11.chgS e128 (fun hS_ => hS_.elim (N16_11).inb (fun hS_ => hS_.elim N17_11 (N18_11).inb))).ext e136
 have O16 := O16.ext e136
 have O17 := O17.ext e136
 have O18 := O18.ext e136
 have O19 := O19.ext e136
 have hB := ethen hB e136
 refine ⟨r132, rfl, ?_⟩
 refine brc H (fun h H => ?_) fun h H => ?_
 ·cases hr.trans H.symm
  exact ⟨rfl, hB⟩
 refine brc H (fun h H => ?_) fun h H => ?_
 ·cases hr.trans H.symm
  exact ⟨rfl, hB⟩
 refine ⟨_, _, _, (O4.a 0), _, _, _, (O4.a 1), _, _, _, (O4.a 2), _, (O4.a 3), _, (O4.a 4), ?_⟩
 obtain ⟨hp139, H⟩ := H
 obtain ⟨r137, hr138, H⟩ := callO H
 refine (laws_toBlock.con hp139 hr138 (R0_0.ext hB) hc0_0 (R0_1.ext hB) hc0_1 (R0_2.ext hB) hc0_2).mono ?_
 rintro _ w140 ⟨A142, c143, A144, c145, F148, A146, c147, rfl, P23, P24, P25, N24_25, e141⟩
 have O23 := P23.mono hB.size
 have O24 := P24.mono hB.size
 have O25 := P25.mono hB.size
 have hB := ethen hB e141
 refine ⟨A142, r137.Code.length, c143, trivial, A144, r137.Warps.length, c145, trivial, A146, r137.Memory.length, c147, trivial, r137.Waiting, trivial, r137.Phase, trivial, rfl, ?_⟩
 obtain ⟨hp151, H⟩ := H
 obtain ⟨r149, hr150, H⟩ := callO H
 refine (impl_BlockStep.con hp151 hr150 O23.row O23.le O24.row O24.le O25.row O25.le).mono ?_
 rintro _ w152 ⟨A154, c155, A156, c157, F160, A158, c159, rfl, P26, P27, P28, N27_28, e153⟩
 have O26 := P26.mono hB.size
 have O27 := P27.mono hB.size
 have O28 := P28.mono hB.size
 refine ⟨(.agg #[(sv A154 r149.1.Code.length c155), (sv A156 r149.1.Warps.length c157), (sv A158 r149.1.Memory.length c159), (iv r149.1.Waiting), (iv r149.1.Phase)]), A154, r149.1.Code.length, c155, trivial, A156, r149.1.Warps.length, c157, trivial, A158, r149.1.Memory.length, c159, trivial, r149.1.Waiting, trivial, r149.1.Phase, trivial, rfl, (.bool r149.2), r149.2, rfl, rfl, ?_⟩
 refine newSt #[(sv A154 r149.1.Code.length c155), (sv A156 r149.1.Warps.length c157), (sv A158 r149.1.Memory.length c159), (iv r149.1.Waiting), (iv r149.1.Phase)] (fun g29_ w163 L29 O29 e164 => ?_)
 have O8 := ((O8.ext e141).ext e153).ext e164
 have O9 := ((O9.ext e141).ext e153).ext e164
 have O10 := ((O10.ext e141).ext e153).ext e164
 have O11 := ((O11.ext e141).ext e153).ext e164
 have O26 := O26.ext e164
 have O27 := O27.ext e164
 have O28 := O28.ext e164
 refine ⟨_, _, _, (O29.a 0), _, _, _, (O29.a 1), _, _, _, (O29.a 2), _, (O29.a 3), _, (O29.a 4), _, _, _, (O11.a 0), _, _, _, (O11.a 1), _, _, _, (O11.a 2), _, (O11.a 3), _, (O11.a 4), ?_⟩
 obtain ⟨hp167, H⟩ := H
 obtain ⟨r165, hr166, H⟩ := callO H
 refine (laws_eqBlock.con hp167 hr166 O26.row O26.le O27.row O27.le O28.row O28.le O8.row O8.le O9.row O9.le O10.row O10.le).mono ?_
 rintro _ w168 ⟨rfl, e169⟩
 have O16 := (((O16.ext e141).ext e153).ext e164).ext e169
 have O17 := (((O17.ext e141).ext e153).ext e164).ext e169
 have O18 := (((O18.ext e141).ext e153).ext e164).ext e169
 have O19 := (((O19.ext e141).ext e153).ext e164).ext e169
 have hB := ethen (ethen (ethen hB e153) e164) e169
 refine ⟨r165, rfl, ?_⟩
 refine brc H (fun h H => ?_) fun h H => ?_
 ·cases hr.trans H.symm
  exact ⟨rfl, hB⟩
 refine brc H (fun h H => ?_) fun h H => ?_
 ·cases hr.trans H.symm
  exact ⟨rfl, hB⟩
 refine ⟨_, _, _, (O19.a 0), _, _, _, (O19.a 1), _, _, _, (O19.a 2), _, (O19.a 3), _, (O19.a 4), ?_⟩
 obtain ⟨hp172, H⟩ := H
 obtain ⟨r170, hr171, H⟩ := callO H
 refine (cllArgs (by first | (simp only [List.length_set, hl129, hl130, hl131]; done) | (simp; done)) (laws_heldBlock.con hp172 hr171 O16.row O16.le O17.row O17.le O18.row O18.le)).mono ?_
 rintro _ w173 ⟨rfl, e174⟩
 have hB := ethen hB e174
 refine ⟨r170, rfl, ?_⟩
 refine brc H (fun h H => ?_) fun h H => ?_
 ·cases hr.trans H.symm
  exact ⟨rfl, hB⟩
 refine brc H (fun h H => ?_) fun h H => ?_
 ·cases hr.trans H.symm
  exact ⟨rfl, hB⟩
 cases hr.trans H.symm
 exact ⟨rfl, hB⟩
end Go.V
