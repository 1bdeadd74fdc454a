import Derived.Test.YtkacokecjojkoaaGreatKRCon3
namespace Go.V
open Go.Proofs
open IntKind (wrap)
set_option linter.unusedVariables false
set_option linter.unusedSimpArgs false
set_option maxRecDepth 100000
def laws_FnExactRunPicks.vc (A0_0 : OA) (n0_0 c0_0 : Nat) (A0_1 : OA) (n0_1 c0_1 : Nat) (A0_2 : OA) (n0_2 c0_2 : Nat) (x0_3 x0_4 : Int) (A1 : OA) (n1 c1 : Nat) (w : World) (K : VK) : Prop :=
  newK w (.cells (vB A0_0 n0_0 c0_0 A0_1 n0_1 c0_1 A0_2 n0_2 c0_2 x0_3 x0_4) 53) fun g21 w22 => bcase (decide (((n1 : Nat) : Int) > 1048576)) (K (.bool true) w22) (ldB w22 (bx g21) fun A23 n24 c25 A26 n27 c28 A29 n30 c31 n32 n33 => Cl 37 #[(.agg (vB A23 n24 c25 A26 n27 c28 A29 n30 c31 n32 n33)), (iv 1048576)] w22 fun v34 w35 => (∃ (n36 : Int), v34 = (iv n36) ∧ bcase (decide (n36 < 0)) (K (.bool true) w35) (ldB w35 (bx g21) fun A37 n38 c39 A40 n41 c42 A43 n44 c45 n46 n47 => Cl 39 #[(.agg (vB A37 n38 c39 A40 n41 c42 A43 n44 c45 n46 n47))] w35 fun v48 w49 => (∃ (A50 : OA) (n51 c52 : Nat), True ∧ ∃ (A53 : OA) (n54 c55 : Nat), True ∧ ∃ (A56 : OA) (n57 c58 : Nat), True ∧ ∃ (n59 : Int), True ∧ ∃ (n60 : Int), True ∧ v48 = (.agg (vB A50 n51 c52 A53 n54 c55 A56 n57 c58 n59 n60)) ∧ Cl 52 #[(sv A1 n1 c1)] w49 fun v61 w62 => (∃ (A63 : OA) (n64 c65 : Nat), v61 = (sv A63 n64 c65) ∧ Cl 51 #[(.agg (vB A50 n51 c52 A53 n54 c55 A56 n57 c58 n59 n60)), (sv A63 n64 c65)] w62 fun v66 w67 => (∃ u68 : Value, (∃ (A69 : OA) (n70 c71 : Nat), True ∧ ∃ (A72 : OA) (n73 c74 : Nat), True ∧ ∃ (A75 : OA) (n76 c77 : Nat), True ∧ ∃ (n78 : Int), True ∧ ∃ (n79 : Int), True ∧ u68 = (.agg (vB A69 n70 c71 A72 n73 c74 A75 n76 c77 n78 n79)) ∧ ∃ u80 : Value, (∃ (n81 : Int), u80 = (iv n81) ∧ v66 = (.tuple #[(.agg (vB A69 n70 c71 A72 n73 c74 A75 n76 c77 n78 n79)), (iv n81)]) ∧ newK w67 (.cells zC 59) fun g82 w83 => stCells (bx g82) [(sv A69 n70 c71), (sv A72 n73 c74), (sv A75 n76 c77), (iv n78), (iv n79)] 0 w83 fun w84 => ldB w84 (bx g21) fun A85 n86 c87 A88 n89 c90 A91 n92 c93 n94 n95 => Cl 39 #[(.agg (vB A85 n86 c87 A88 n89 c90 A91 n92 c93 n94 n95))] w84 fun v96 w97 => (∃ (A98 : OA) (n99 c100 : Nat), True ∧ ∃ (A101 : OA) (n102 c103 : Nat), True ∧ ∃ (A104 : OA) (n105 c106 : Nat), True ∧ ∃ (n107 : Int), True ∧ ∃ (n108 : Int), True ∧ v96 = (.agg (vB A98 n99 c100 A101 n102 c103 A104 n105 c106 n107 n108)) ∧ newK w97 (.cells zC 59) fun g109 w110 => stCells (bx g109) [(sv A98 n99 c100), (sv A101 n102 c103), (sv A104 n105 c106), (iv n107), (iv n108)] 0 w110 fun w111 => Cl 52 #[(sv A1 n1 c1)] w111 fun v112 w113 => (∃ (A114 : OA) (n115 c116 : Nat), v112 = (sv A114 n115 c116) ∧ ldB w113 (bx g109) fun A117 n118 c119 A120 n121 c122 A123 n124 c125 n126 n127 => Cl 53 #[(.agg (vB A117 n118 c119 A120 n121 c122 A123 n124 c125 n126 n127)), (sv A114 n115 c116)] w113 fun v128 w129 => (∃ u130 : Value, (∃ (A131 : OA) (n132 c133 : Nat), True ∧ ∃ (A134 : OA) (n135 c136 : Nat), True ∧ ∃ (A137 : OA) (n138 c139 : Nat), True ∧ ∃ (n140 : Int), True ∧ ∃ (n141 : Int), True ∧ u130 = (.agg (vB A131 n132 c133 A134 n135 c136 A137 n138 c139 n140 n141)) ∧ ∃ u142 : Value, (∃ (n143 : Int), u142 = (iv n143) ∧ v128 = (.tuple #[(.agg (vB A131 n132 c133 A134 n135 c136 A137 n138 c139 n140 n141)), (iv n143)]) ∧ newK w129 (.cells zC 59) fun g144 w145 => stCells (bx g144) [(sv A131 n132 c133), (sv A134 n135 c136), (sv A137 n138 c139), (iv n140), (iv n141)] 0 w145 fun w146 => ldB w146 (bx g144) fun A148 n149 c150 A151 n152 c153 A154 n155 c156 n157 n158 => ldB w146 (bx g82) fun A159 n160 c161 A162 n163 c164 A165 n166 c167 n168 n169 => Cl 42 #[(.agg (vB A148 n149 c150 A151 n152 c153 A154 n155 c156 n157 n158)), (.agg (vB A159 n160 c161 A162 n163 c164 A165 n166 c167 n168 n169))] w146 fun v170 w171 => (∃ (b172 : Bool), v170 = (.bool b172) ∧ bcase (!b172) (K (.bool false) w171) (bcase (n143 != n81) (K (.bool false) w171) ((∃ M173 : Nat → Prop, ldSM M173 w171 (bx g109) 0 fun A174 n175 c176 => ldSM M173 w171 (bx g109) 1 fun A177 n178 c179 => ldSM M173 w171 (bx g109) 2 fun A180 n181 c182 => ldIM M173 w171 (bx g109) 3 fun n183 => ldIM M173 w171 (bx g109) 4 fun n184 => ldSM M173 w171 (bx g21) 0 fun A185 n186 c187 => ldSM M173 w171 (bx g21) 1 fun A188 n189 c190 => ldSM M173 w171 (bx g21) 2 fun A191 n192 c193 => ldIM M173 w171 (bx g21) 3 fun n194 => ldIM M173 w171 (bx g21) 4 fun n195 => Cl 39 #[(.agg (vB A185 n186 c187 A188 n189 c190 A191 n192 c193 n194 n195))] w171.drew fun v196 w197 => (∃ (A198 : OA) (n199 c200 : Nat), True ∧ ∃ (A201 : OA) (n202 c203 : Nat), True ∧ ∃ (A204 : OA) (n205 c206 : Nat), True ∧ ∃ (n207 : Int), True ∧ ∃ (n208 : Int), True ∧ v196 = (.agg (vB A198 n199 c200 A201 n202 c203 A204 n205 c206 n207 n208)) ∧ SameBut M173 w171 w197 ∧ Cl 42 #[(.agg (vB A174 n175 c176 A177 n178 c179 A180 n181 c182 n183 n184)), (.agg (vB A198 n199 c200 A201 n202 c203 A204 n205 c206 n207 n208))] w197 fun v209 w210 => (∃ (b211 : Bool), v209 = (.bool b211) ∧ SameBut M173 w171 w210 ∧ bcase (!b211) (K (.bool false) w210) (Cl 52 #[(sv A1 n1 c1)] w210 fun v212 w213 => (∃ (A214 : OA) (n215 c216 : Nat), v212 = (sv A214 n215 c216) ∧ Cl 54 #[(sv A114 n115 c116), (sv A214 n215 c216)] w213 fun v217 w218 => (∃ (b219 : Bool), v217 = (.bool b219) ∧ bcase (!b219) (K (.bool false) w218) (ldB w218 (bx g109) fun A220 n221 c222 A223 n224 c225 A226 n227 c228 n229 n230 => Cl 43 #[(.agg (vB A220 n221 c222 A223 n224 c225 A226 n227 c228 n229 n230)), (iv 1)] w218 fun v231 w232 => (∃ (n233 : Int), v231 = (iv n233) ∧ Cl 55 #[(sv A114 n115 c116), (iv n233)] w232 fun v234 w235 => (∃ (n236 : Int), v234 = (iv n236) ∧ bcase (decide (n236 < 0)) (K (.bool false) w235) (ldB w235 (bx g144) fun A238 n239 c240 A241 n242 c243 A244 n245 c246 n247 n248 => ldB w235 (bx g82) fun A249 n250 c251 A252 n253 c254 A255 n256 c257 n258 n259 => Cl 42 #[(.agg (vB A238 n239 c240 A241 n242 c243 A244 n245 c246 n247 n248)), (.agg (vB A249 n250 c251 A252 n253 c254 A255 n256 c257 n258 n259))] w235 fun v260 w261 => (∃ (b262 : Bool), v260 = (.bool b262) ∧ bcase (!b262) (K (.bool false) w261) (bcase (n143 != n81) (K (.bool false) w261) (ldB w261 (bx g144) fun A263 n264 c265 A266 n267 c268 A269 n270 c271 n272 n273 => Cl 43 #[(.agg (vB A263 n264 c265 A266 n267 c268 A269 n270 c271 n272 n273)), (iv 1)] w261 fun v274 w275 => (∃ (n276 : Int), v274 = (iv n276) ∧ ldB w275 (bx g144) fun A277 n278 c279 A280 n281 c282 A283 n284 c285 n286 n287 => Cl 48 #[(.agg (vB A277 n278 c279 A280 n281 c282 A283 n284 c285 n286 n287)), (iv 1)] w275 fun v288 w289 => (∃ (n290 : Int), v288 = (iv n290) ∧ bcase (decide (n290 < 0)) (K (.bool false) w289) (bcase (n290 != n276) (K (.bool false) w289) (ldB w289 (bx g21) fun A291 n292 c293 A294 n295 c296 A297 n298 c299 n300 n301 => Cl 39 #[(.agg (vB A291 n292 c293 A294 n295 c296 A297 n298 c299 n300 n301))] w289 fun v302 w303 => (∃ (A304 : OA) (n305 c306 : Nat), True ∧ ∃ (A307 : OA) (n308 c309 : Nat), True ∧ ∃ (A310 : OA) (n311 c312 : Nat), True ∧ ∃ (n313 : Int), True ∧ ∃ (n314 : Int), True ∧ v302 = (.agg (vB A304 n305 c306 A307 n308 c309 A310 n311 c312 n313 n314)) ∧ Cl 52 #[(sv A1 n1 c1)] w303 fun v315 w316 => (∃ (A317 : OA) (n318 c319 : Nat), v315 = (sv A317 n318 c319) ∧ Cl 53 #[(.agg (vB A304 n305 c306 A307 n308 c309 A310 n311 c312 n313 n314)), (sv A317 n318 c319)] w316 fun v320 w321 => (∃ u322 : Value, (∃ (A323 : OA) (n324 c325 : Nat), True ∧ ∃ (A326 : OA) (n327 c328 : Nat), True ∧ ∃ (A329 : OA) (n330 c331 : Nat), True ∧ ∃ (n332 : Int), True ∧ ∃ (n333 : Int), True ∧ u322 = (.agg (vB A323 n324 c325 A326 n327 c328 A329 n330 c331 n332 n333)) ∧ ∃ u334 : Value, (∃ (n335 : Int), u334 = (iv n335) ∧ v320 = (.tuple #[(.agg (vB A323 n324 c325 A326 n327 c328 A329 n330 c331 n332 n333)), (iv n335)]) ∧ newK w321 (.cells zC 59) fun g336 w337 => stCells (bx g336) [(sv A323 n324 c325), (sv A326 n327 c328), (sv A329 n330 c331), (iv n332), (iv n333)] 0 w337 fun w338 => ldB w338 (bx g336) fun A340 n341 c342 A343 n344 c345 A346 n347 c348 n349 n350 => ldB w338 (bx g82) fun A351 n352 c353 A354 n355 c356 A357 n358 c359 n360 n361 => Cl 42 #[(.agg (vB A340 n341 c342 A343 n344 c345 A346 n347 c348 n349 n350)), (.agg (vB A351 n352 c353 A354 n355 c356 A357 n358 c359 n360 n361))] w338 fun v362 w363 => (∃ (b364 : Bool), v362 = (.bool b364) ∧ bcase (!b364) (K (.bool false) w363) (bcase (n335 != n81) (K (.bool false) w363) (ldB w363 (bx g144) fun A365 n366 c367 A368 n369 c370 A371 n372 c373 n374 n375 => Cl 48 #[(.agg (vB A365 n366 c367 A368 n369 c370 A371 n372 c373 n374 n375)), (iv 1)] w363 fun v376 w377 => (∃ (n378 : Int), v376 = (iv n378) ∧ bcase (decide (n378 < 0)) (K (.bool false) w377) (bcase (n378 != n276) (K (.bool false) w377) (K (.bool true) w377))))))))))))))))))))))))))))))))))))))))))))

def laws_FnExactRunPicks.ann : Ann := (.seq .l (.seq (.seq .l (.two (.seq .l .l) .l)) (.seq .l (.seq .l (.seq (.seq .l (.two (.seq .l .l) .l)) (.seq .l (.seq .l (.seq .l (.seq .l (.seq (.seq .l (.two (.seq .l .l) .l)) (.seq (.seq .l (.two (.seq .l .l) .l)) (.seq (.seq .l (.two (.seq .l .l) .l)) (.seq .l (.seq .l (.seq .l (.seq (.seq .l (.two (.seq .l .l) .l)) (.seq .l (.seq .l (.seq .l (.seq .l (.seq (.seq .l (.two (.seq .l .l) .l)) (.seq (.seq .l (.two (.seq .l .l) .l)) (.seq .l (.seq (.seq .l (.two (.seq .l .l) .l)) (.seq .l (.seq .l (.seq (.seq .l (.two (.seq .l .l) .l)) (.seq (.seq .l (.two (.seq .l .l) .l)) (.seq .l .l)))))))))))))))))))))))))))))

theorem laws_FnExactRunPicks.con {s0 : D.Block} {A0_0 A0_1 A0_2 A1 : OA} {c0_0 c0_1 c0_2 c1 : Nat} {xs1 : List Int} {r : Bool} {w : World} (hp : M.laws_FnExactRunPicks_pre s0 xs1) (hr : r = M.laws_FnExactRunPicks s0 xs1) (R0_0 : Row el91 w A0_0 s0.Code) (hc0_0 : s0.Code.length ≤ c0_0) (R0_1 : RowW 26 el134 el3 w A0_1 s0.Warps) (hc0_1 : s0.Warps.length ≤ c0_1) (R0_2 : Row el3 w A0_2 s0.Memory) (hc0_2 : s0.Memory.length ≤ c0_2) (R1 : Row el3 w A1 xs1) (hc1 : xs1.length ≤ c1) :
    Cl 12 #[(.agg (bC A0_0 c0_0 A0_1 c0_1 A0_2 c0_2 s0)), (sv A1 xs1.length c1)] w (fun v_ w_ => v_ = (.bool r) ∧ Ext w w_) := by
 have H := wp.laws_FnExactRunPicks.math s0 xs1 hp
 refine begK mixed Tryz.f12 ann (vc A0_0 s0.Code.length c0_0 A0_1 s0.Warps.length c0_1 A0_2 s0.Memory.length c0_2 s0.Waiting s0.Phase A1 xs1.length c1) ?_
 unfold vc
 unfold wp.laws_FnExactRunPicks at H
 refine newBlk (fun g5_ w21 L5 O5 e22 => ?_)
 have hB := ethen (Ext.refl w) e22
 refine brc H (fun h H => ?_) fun h H => ?_
 ·cases hr.trans H.symm
  exact ⟨rfl, hB⟩
 refine ⟨_, _, _, (O5.a 0), _, _, _, (O5.a 1), _, _, _, (O5.a 2), _, (O5.a 3), _, (O5.a 4), ?_⟩
 obtain ⟨hp25, H⟩ := H
 obtain ⟨r23, hr24, H⟩ := callO H
 refine (laws_szBlock.con hp25 hr24 (R0_0.ext hB) hc0_0 (R0_1.ext hB) hc0_1 (R0_2.ext hB) hc0_2).mono ?_
 rintro _ w26 ⟨rfl, e27⟩
 have O5 := O5.ext e27
 have hB := ethen hB e27
 refine ⟨r23, rfl, ?_⟩
 refine brc H (fun h H => ?_) fun h H => ?_
 ·cases hr.trans H.symm
  exact ⟨rfl, hB⟩
 refine ⟨_, _, _, (O5.a 0), _, _, _, (O5.a 1), _, _, _, (O5.a 2), _, (O5.a 3), _, (O5.a 4), ?_⟩
 obtain ⟨hp30, H⟩ := H
 obtain ⟨r28, hr29, H⟩ := callO H
 refine (laws_toBlock.con hp30 hr29 (R0_0.ext hB) hc0_0 (R0_1.ext hB) hc0_1 (R0_2.ext hB) hc0_2).mono ?_
 rintro _ w31 ⟨A33, c34, A35, c36, F39, A37, c38, rfl, P6, P7, P8, N7_8, e32⟩
 have O6 := P6.mono hB.size
 have O7 := P7.mono hB.size
 have O8 := P8.mono hB.size
 have hB := ethen hB e32
 refine ⟨A33, r28.Code.length, c34, trivial, A35, r28.Warps.length, c36, trivial, A37, r28.Memory.length, c38, trivial, r28.Waiting, trivial, r28.Phase, trivial, rfl, ?_⟩
 obtain ⟨hp42, H⟩ := H
 obtain ⟨r40, hr41, H⟩ := callO H
 refine (laws_toIntS.con hp42 hr41 (R1.ext hB) hc1).mono ?_
 rintro _ w43 ⟨A45, c46, rfl, P9, e44⟩
 have O6 := O6.ext e44
 have O7 := O7.ext e44
 have O8 := O8.ext e44
 have O9 := P9.mono hB.size
 have hB := ethen hB e44
 refine ⟨A45, r40.length, c46, rfl, ?_⟩
 obtain ⟨hp49, H⟩ := H
 obtain ⟨r47, hr48, H⟩ := callO H
 refine (spec_RunPicks.con hp49 hr48 O6.row O6.le O7.row O7.le O8.row O8.le O9.row O9.le).mono ?_
 rintro _ w50 ⟨A52, c53, A54, c55, F58, A56, c57, rfl, P10, P11, P12, N11_12, e51⟩
 have O5 := ((O5.ext e32).ext e44).ext e51
 have O10 := P10.mono hB.size
 have O11 := P11.mono hB.size
 have O12 := P12.mono hB.size
 have hB := ethen hB e51
 refine ⟨(.agg (bC A52 c53 A54 c55 A56 c57 r47.1)), A52, r47.1.Code.length, c53, trivial, A54, r47.1.Warps.length, c55, trivial, A56, r47.1.Memory.length, c57, trivial, r47.1.Waiting, trivial, r47.1.Phase, trivial, rfl, (iv r47.2), r47.2, rfl, rfl, ?_⟩
 refine newBlk (fun g13_ w59 L13 P13 e60 => ?_)
 have N5_13 := O5.ne L13
 have N10_13 := O10.apart_new L13
 have N11_13 := O11.dis_newbox L13
 have N12_13 := O12.apart_new L13
 have O5 := O5.ext e60
 have O10 := O10.ext e60
 have O11 := O11.ext e60
 have O12 := O12.ext e60
 have O13 := P13
 have L13 := Nat.le_trans hB.size L13
 have hB := ethen hB e60
 refine stBlk O13 (o := 0) (cs' := (bC A52 c53 A54 c55 A56 c57 r47.1)) rfl rfl (Nat.le_of_ble_eq_true rfl) rfl (fun w61 O13 e62 => ?_)
 have O5_ := O5.chg e62 N5_13
 have O10_ := O10.chg e62 N10_13
 have O11_ := O11.chg e62 N11_13
 have O12_ := O12.chg e62 N12_13
 have O5 := O5_
 have O10 := O10_
 have O11 := O11_
 have O12 := O12_
 have hB := echg hB e62 L13
 refine ⟨_, _, _, (O5.a 0), _, _, _, (O5.a 1), _, _, _, (O5.a 2), _, (O5.a 3), _, (O5.a 4), ?_⟩
 obtain ⟨hp65, H⟩ := H
 obtain ⟨r63, hr64, H⟩ := callO H
 refine (laws_toBlock.con hp65 hr64 (R0_0.ext hB) hc0_0 (R0_1.ext hB) hc0_1 (R0_2.ext hB) hc0_2).mono ?_
 rintro _ w66 ⟨A68, c69, A70, c71, F74, A72, c73, rfl, P14, P15, P16, N15_16, e67⟩
 have N14_5 := P14.apart_old O5.lt
 have N10_14 := aN O10 P14
 have N11_14 := O11.dis_new P14 (Nat.le_refl _)
 have N12_14 := aN O12 P14
 have N14_13 := P14.apart_old O13.lt
 have N15_5 := P15.new_disbox O5 (Nat.le_refl _)
 have N15_10 := P15.new_dis O10 (Nat.le_refl _)
 have N11_15 := O11.dis_neww P15 (Nat.le_refl _)
 have N15_12 := P15.new_dis O12 (Nat.le_refl _)
 have N15_13 := P15.new_disbox O13 (Nat.le_refl _)
 have N16_5 := P16.apart_old O5.lt
 have N10_16 := aN O10 P16
 have N11_16 := O11.dis_new P16 (Nat.le_refl _)
 have N12_16 := aN O12 P16
 have N16_13 := P16.apart_old O13.lt
 have O5 := O5.ext e67
 have O10 := O10.ext e67
 have O11 := O11.ext e67
 have O12 := O12.ext e67
 have O13 := O13.ext e67
 have O14 := P14.mono hB.size
 have O15 := P15.mono hB.size
 have O16 := P16.mono hB.size
 have hB := ethen hB e67
 refine ⟨A68, r63.Code.length, c69, trivial, A70, r63.Warps.length, c71, trivial, A72, r63.Memory.length, c73, trivial, r63.Waiting, trivial, r63.Phase, trivial, rfl, ?_⟩
 refine newBlk (fun g17_ w75 L17 P17 e76 => ?_)
 have N5_17 := O5.ne L17
 have N10_17 := O10.apart_new L17
 have N11_17 := O11.dis_newbox L17
 have N12_17 := O12.apart_new L17
 have N13_17 := O13.ne L17
 have N14_17 := O14.apart_new L17
 have N15_17 := O15.dis_newbox L17
 have N16_17 := O16.apart_new L17
 have O5 := O5.ext e76
 have O10 := O10.ext e76
 have O11 := O11.ext e76
 have O12 := O12.ext e76
 have O13 := O13.ext e76
 have O14 := O14.ext e76
 have O15 := O15.ext e76
 have O16 := O16.ext e76
 have O17 := P17
 have L17 := Nat.le_trans hB.size L17
 have hB := ethen hB e76
 refine stBlk O17 (o := 0) (cs' := (bC A68 c69 A70 c71 A72 c73 r63)) rfl rfl (Nat.le_of_ble_eq_true rfl) rfl (fun w77 O17 e78 => ?_)
 have O5_ := O5.chg e78 N5_17
 have O10_ := O10.chg e78 N10_17
 have O11_ := O11.chg e78 N11_17
 have O12_ := O12.chg e78 N12_17
 have O13_ := O13.chg e78 N13_17
 have O14_ := O14.chg e78 N14_17
 have O15_ := O15.chg e78 N15_17
 have O16_ := O16.chg e78 N16_17
 have O5 := O5_
 have O10 := O10_
 have O11 := O11_
 have O12 := O12_
 have O13 := O13_
 have O14 := O14_
 have O15 := O15_
 have O16 := O16_
 have hB := echg hB e78 L17
 obtain ⟨hp81, H⟩ := H
 obtain ⟨r79, hr80, H⟩ := callO H
 refine (laws_toIntS.con hp81 hr80 (R1.ext hB) hc1).mono ?_
 rintro _ w82 ⟨A84, c85, rfl, P18, e83⟩
 have N18_5 := P18.apart_old O5.lt
 have N10_18 := aN O10 P18
 have N11_18 := O11.dis_new P18 (Nat.le_refl _)
 have N12_18 := aN O12 P18
 have N18_13 := P18.apart_old O13.lt
 have N14_18 := aN O14 P18
 have N15_18 := O15.dis_new P18 (Nat.le_refl _)
 have N16_18 := aN O16 P18
 have O5 := O5.ext e83
 have O10 := O10.ext e83
 have O11 := O11.ext e83
 have O12 := O12.ext e83
 have O13 := O13.ext e83
 have O14 := O14.ext e83
 have O15 := O15.ext e83
 have O16 := O16.ext e83
 have O17 := O17.ext e83
 have O18 := P18.mono hB.size
 have hB := ethen hB e83
 refine ⟨A84, r79.length, c85, rfl, _, _, _, (O17.a 0), _, _, _, (O17.a 1), _, _, _, (O17.a 2), _, (O17.a 3), _, (O17.a 4), ?_⟩
 obtain ⟨hp88, H⟩ := H
 obtain ⟨r86, hr87, H⟩ := callO H
 refine (impl_RunPicks.con hp88 hr87 O14.row O14.le O15.row O15.le O16.row O16.le O18.row O18.le).mono ?_
 rintro _ w89 ⟨A91, c92, A93, c94, F97, A95, c96, rfl, P19, P20, P21, N20_21, e90⟩
 have N19_5 := P19.apart_old O5.lt
 have N10_19 := aN O10 P19
 have N11_19 := O11.dis_new P19 (Nat.le_refl _)
 have N12_19 := aN O12 P19
 have N19_13 := P19.apart_old O13.lt
 have N14_19 := aN O14 P19
 have N15_19 := O15.dis_new P19 (Nat.le_refl _)
 have N16_19 := aN O16 P19
 have N18_19 := aN O18 P19
 have N20_5 := P20.new_disbox O5 (Nat.le_refl _)
 have N20_10 := P20.new_dis O10 (Nat.le_refl _)
 have N11_20 := O11.dis_neww P20 (Nat.le_refl _)
 have N20_12 := P20.new_dis O12 (Nat.le_refl _)
 have N20_13 := P20.new_disbox O13 (Nat.le_refl _)
 have N20_14 := P20.new_dis O14 (Nat.le_refl _)
 have N15_20 := O15.dis_neww P20 (Nat.le_refl _)
 have N20_16 := P20.new_dis O16 (Nat.le_refl _)
 have N20_18 := P20.new_dis O18 (Nat.le_refl _)
 have N21_5 := P21.apart_old O5.lt
 have N10_21 := aN O10 P21
 have N11_21 := O11.dis_new P21 (Nat.le_refl _)
 have N12_21 := aN O12 P21
 have N21_13 := P21.apart_old O13.lt
 have N14_21 := aN O14 P21
 have N15_21 := O15.dis_new P21 (Nat.le_refl _)
 have N16_21 := aN O16 P21
 have N18_21 := aN O18 P21
 have O5 := O5.ext e90
 have O10 := O10.ext e90
 have O11 := O11.ext e90
 have O12 := O12.ext e90
 have O13 := O13.ext e90
 have O14 := O14.ext e90
 have O15 := O15.ext e90
 have O16 := O16.ext e90
 have O17 := O17.ext e90
 have O18 := O18.ext e90
 have O19 := P19.mono hB.size
 have O20 := P20.mono hB.size
 have O21 := P21.mono hB.size
 have hB := ethen hB e90
 refine ⟨(.agg (bC A91 c92 A93 c94 A95 c96 r86.1)), A91, r86.1.Code.length, c92, trivial, A93, r86.1.Warps.length, c94, trivial, A95, r86.1.Memory.length, c96, trivial, r86.1.Waiting, trivial, r86.1.Phase, trivial, rfl, (iv r86.2), r86.2, rfl, rfl, ?_⟩
 refine newBlk (fun g22_ w98 L22 P22 e99 => ?_)
 have N5_22 := O5.ne L22
 have N10_22 := O10.apart_new L22
 have N11_22 := O11.dis_newbox L22
 have N12_22 := O12.apart_new L22
 have N13_22 := O13.ne L22
 have N14_22 := O14.apart_new L22
 have N15_22 := O15.dis_newbox L22
 have N16_22 := O16.apart_new L22
 have N17_22 := O17.ne L22
 have N18_22 := O18.apart_new L22
 have N19_22 := O19.apart_new L22
 have N20_22 := O20.dis_newbox L22
 have N21_22 := O21.apart_new L22
 have O5 := O5.ext e99
 have O10 := O10.ext e99
 have O11 := O11.ext e99
 have O12 := O12.ext e99
 have O13 := O13.ext e99
 have O19 := O19.ext e99
 have O20 := O20.ext e99
 have O21 := O21.ext e99
 have O22 := P22
 have L22 := Nat.le_trans hB.size L22
 have hB := ethen hB e99
 refine stBlk O22 (o := 0) (cs' := (bC A91 c92 A93 c94 A95 c96 r86.1)) rfl rfl (Nat.le_of_ble_eq_true rfl) rfl (fun w100 O22 e101 => ?_)
 have O5_ := O5.chg e101 N5_22
 have O10_ := O10.chg e101 N10_22
 have O11_ := O11.chg e101 N11_22
 have O12_ := O12.chg e101 N12_22
 have O13_ := O13.chg e101 N13_22
 have O19_ := O19.chg e101 N19_22
 have O20_ := O20.chg e101 N20_22
 have O21_ := O21.chg e101 N21_22
 have O10 := O10_
 have O11 := O11_
 have O12 := O12_
 have O13 := O13_
 have O19 := O19_
 have O20 := O20_
 have O21 := O21_
 refine ⟨_, _, _, (O22.a 0), _, _, _, (O22.a 1), _, _, _, (O22.a 2), _, (O22.a 3), _, (O22.a 4), _, _, _, (O13.a 0), _, _, _, (O13.a 1), _, _, _, (O13.a 2), _, (O13.a 3), _, (O13.a 4), ?_⟩
 obtain ⟨hp104, H⟩ := H
 obtain ⟨r102, hr103, H⟩ := callO H
 refine (laws_eqBlock.con hp104 hr103 O19.row O19.le O20.row O20.le O21.row O21.le O10.row O10.le O11.row O11.le O12.row O12.le).mono ?_
 rintro _ w105 ⟨rfl, e106⟩
 have O5 := O5_.ext e106
 have O10 := O10.ext e106
 have O11 := O11.ext e106
 have O12 := O12.ext e106
 have O13 := O13.ext e106
 have O14 := ((O14.ext e99).chg e101 N14_22).ext e106
 have O15 := ((O15.ext e99).chg e101 N15_22).ext e106
 have O16 := ((O16.ext e99).chg e101 N16_22).ext e106
 have O17 := ((O17.ext e99).chg e101 N17_22).ext e106
 have O18 := ((O18.ext e99).chg e101 N18_22).ext e106
 have O19 := O19.ext e106
 have O20 := O20.ext e106
 have O21 := O21.ext e106
 have O22 := O22.ext e106
 have hB := ethen (echg hB e101 L22) e106
 refine ⟨r102, rfl, ?_⟩
 refine brc H (fun h H => ?_) fun h H => ?_
 ·cases hr.trans H.symm
  exact ⟨rfl, hB⟩
 refine brc H (fun h H => ?_) fun h H => ?_
 ·cases hr.trans H.symm
  exact ⟨rfl, hB⟩
 refine ⟨(fun _ => False), _, _, _, noM (O17.a 0), _, _, _, noM (O17.a 1), _, _, _, noM (O17.a 2), _, noM (O17.a 3), _, noM (O17.a 4), _, _, _, noM (O5.a 0), _, _, _, noM (O5.a 1), _, _, _, noM (O5.a 2), _, noM (O5.a 3), _, noM (O5.a 4), ?_⟩
 have O5 := O5.ext (Ext.drew _)
 have O10 := O10.ext (Ext.drew _)
 have O11 := O11.ext (Ext.drew _)
 have O12 := O12.ext (Ext.drew _)
 have O13 := O13.ext (Ext.drew _)
 have O14 := O14.ext (Ext.drew _)
 have O15 := O15.ext (Ext.drew _)
 have O16 := O16.ext (Ext.drew _)
 have O17 := O17.ext (Ext.drew _)
 have O18 := O18.ext (Ext.drew _)
 have O19 := O19.ext (Ext.drew _)
 have O20 := O20.ext (Ext.drew _)
 have O21 := O21.ext (Ext.drew _)
 have O22 := O22.ext (Ext.drew _)
 have hB := ethen hB (Ext.drew _)
 have hS107 := (Chg.refl (fun _ => False) w105).then (Ext.drew _)
 obtain ⟨hp110, H⟩ := H
 obtain ⟨r108, hr109, H⟩ := callO H
 refine (laws_toBlock.con hp110 hr109 (R0_0.ext hB) hc0_0 (R0_1.ext hB) hc0_1 (R0_2.ext hB) hc0_2).mono ?_
 rintro _ w111 ⟨A113, c114, A115, c116, F119, A117, c118, rfl, P23, P24, P25, N24_25, e112⟩
 have O14 := O14.ext e112
 have O15 := O15.ext e112
 have O16 := O16.ext e112
 have O23 := P23.mono hB.size
 have O24 := P24.mono hB.size
 have O25 := P25.mono hB.size
 have hS107 := hS107.then e112
 refine ⟨A113, r108.Code.length, c114, trivial, A115, r108.Warps.length, c116, trivial, A117, r108.Memory.length, c118, trivial, r108.Waiting, trivial, r108.Phase, trivial, rfl, sameBut_chg hS107, ?_⟩
 obtain ⟨hp122, H⟩ := H
 obtain ⟨r120, hr121, H⟩ := callO H
 refine (laws_eqBlock.con hp122 hr121 O14.row O14.le O15.row O15.le O16.row O16.le O23.row O23.le O24.row O24.le O25.row O25.le).mono ?_
 rintro _ w123 ⟨rfl, e124⟩
 have O5 := (O5.ext e112).ext e124
 have O10 := (O10.ext e112).ext e124
 have O11 := (O11.ext e112).ext e124
 have O12 := (O12.ext e112).ext e124
 have O13 := (O13.ext e112).ext e124
 have O14 := O14.ext e124
 have O15 := O15.ext e124
 have O16 := O16.ext e124
 have O17 := (O17.ext e112).ext e124
 have O18 := (O18.ext e112).ext e124
 have O19 := (O19.ext e112).ext e124
 have O20 := (O20.ext e112).ext e124
 have O21 := (O21.ext e112).ext e124
 have O22 := (O22.ext e112).ext e124
 have hB := ethen (ethen hB e112) e124
 have hS107 := hS107.then e124
 refine ⟨r120, rfl, sameBut_chg hS107, ?_⟩
 refine brc H (fun h H => ?_) fun h H => ?_
 ·cases hr.trans H.symm
  exact ⟨rfl, hB⟩
 obtain ⟨hp127, H⟩ := H
 obtain ⟨r125, hr126, H⟩ := callO H
 refine (laws_toIntS.con hp127 hr126 (R1.ext hB) hc1).mono ?_
 rintro _ w128 ⟨A130, c131, rfl, P26, e129⟩
 have O18 := O18.ext e129
 have O26 := P26.mono hB.size
 refine ⟨A130, r125.length, c131, rfl, ?_⟩
 obtain ⟨hp134, H⟩ := H
 obtain ⟨r132, hr133, H⟩ := callO H
 refine (laws_eqIntS.con hp134 hr133 O18.row O18.le O26.row O26.le).mono ?_
 rintro _ w135 ⟨rfl, e136⟩
 have O5 := (O5.ext e129).ext e136
 have O10 := (O10.ext e129).ext e136
 have O11 := (O11.ext e129).ext e136
 have O12 := (O12.ext e129).ext e136
 have O13 := (O13.ext e129).ext e136
 have O14 := (O14.ext e129).ext e136
 have O15 := (O15.ext e129).ext e136
 have O16 := (O16.ext e129).ext e136
 have O17 := (O17.ext e129).ext e136
 have O18 := O18.ext e136
 have O19 := (O19.ext e129).ext e136
 have O20 := (O20.ext e129).ext e136
 have O21 := (O21.ext e129).ext e136
 have O22 := (O22.ext e129).ext e136
 have hB := ethen (ethen hB e129) e136
 refine ⟨r132, rfl, ?_⟩
 refine brc H (fun h H => ?_) fun h H => ?_
 ·cases hr.trans H.symm
  exact ⟨rfl, hB⟩
 refine ⟨_, _, _, (O17.a 0), _, _, _, (O17.a 1), _, _, _, (O17.a 2), _, (O17.a 3), _, (O17.a 4), ?_⟩
 obtain ⟨hp139, H⟩ := H
 obtain ⟨r137, hr138, H⟩ := callO H
 refine (laws_markBlock.con hp139 hr138 (O14.mono (Nat.zero_le _)) (O15.mono (Nat.zero_le _)) (O16.mono (Nat.zero_le _)) N15_16).mono ?_
 rintro _ w140 ⟨rfl, Q14, hl142, Q15, hl143, Q16, hl144, e141⟩
 have O18 := O18.chgS e141 (fun g h_ => (fun hS_ => hS_.elim (((N14_18).symm).inb g h_) (fun hS_ => hS_.elim ((N15_18).symm g h_) (((N16_18).symm).inb g h_))))
 have hB := Chg.ext hB e141 (fun g => (fun hS_ => hS_.elim (O14.low g) (fun hS_ => hS_.elim (O15.lowW g) (O16.low g))))
 refine ⟨r137.1, rfl, ?_⟩
 obtain ⟨hp147, H⟩ := H
 obtain ⟨r145, hr146, H⟩ := callO H
 refine (laws_markIntS.con hp147 hr146 (O18.mono (Nat.zero_le _))).mono ?_
 rintro _ w148 ⟨rfl, Q18, hl150, e149⟩
 have O5 := (O5.chgS e141 (fun hS_ => hS_.elim (N14_5).inb (fun hS_ => hS_.elim N15_5 (N16_5).inb))).chgS e149 (N18_5).inb
 have O10 := (O10.chgS e141 (fun g h_ => (fun hS_ => hS_.elim ((N10_14).inb g h_) (fun hS_ => hS_.elim ((N15_10).symm g h_) ((N10_16).inb g h_))))).chgS e149 (N10_18).inb
 have O11 := (O11.kept e141 (fun g h_ => (fun hS_ => hS_.elim (N11_14 g h_) (fun hS_ => hS_.elim (N11_15 g h_) (N11_16 g h_))))).kept e149 N11_18
 have O12 := (O12.chgS e141 (fun g h_ => (fun hS_ => hS_.elim ((N12_14).inb g h_) (fun hS_ => hS_.elim ((N15_12).symm g h_) ((N12_16).inb g h_))))).chgS e149 (N12_18).inb
 have O13 := (O13.chgS e141 (fun hS_ => hS_.elim (N14_13).inb (fun hS_ => hS_.elim N15_13 (N16_13).inb))).chgS e149 (N18_13).inb
 have O19 := (O19.chgS e141 (fun g h_ => (fun hS_ => hS_.elim (((N14_19).symm).inb g h_) (fun hS_ => hS_.elim ((N15_19).symm g h_) (((N16_19).symm).inb g h_))))).chgS e149 ((N18_19).symm).inb
 have O20 := (O20.kept e141 (fun g h_ => (fun hS_ => hS_.elim (N20_14 g h_) (fun hS_ => hS_.elim ((N15_20).symm g h_) (N20_16 g h_))))).kept e149 N20_18
 have O21 := (O21.chgS e141 (fun g h_ => (fun hS_ => hS_.elim (((N14_21).symm).inb g h_) (fun hS_ => hS_.elim ((N15_21).symm g h_) (((N16_21).symm).inb g h_))))).chgS e149 ((N18_21).symm).inb
 have O22 := (O22.chgS e141 (fun hS_ => hS_.elim (N14_22).inb (fun hS_ => hS_.elim N15_22 (N16_22).inb))).chgS e149 (N18_22).inb
 have hB := Chg.ext hB e149 O18.low
 refine ⟨r145.1, rfl, ?_⟩
 refine brc H (fun h H => ?_) fun h H => ?_
 ·cases hr.trans H.symm
  exact ⟨rfl, hB⟩
 refine ⟨_, _, _, (O22.a 0), _, _, _, (O22.a 1), _, _, _, (O22.a 2), _, (O22.a 3), _, (O22.a 4), _, _, _, (O13.a 0), _, _, _, (O13.a 1), _, _, _, (O13.a 2), _, (O13.a 3), _, (O13.a 4), ?_⟩
 obtain ⟨hp153, H⟩ := H
 obtain ⟨r151, hr152, H⟩ := callO H
 refine (laws_eqBlock.con hp153 hr152 O19.row O19.le O20.row O20.le O21.row O21.le O10.row O10.le O11.row O11.le O12.row O12.le).mono ?_
 rintro _ w154 ⟨rfl, e155⟩
 have O5 := O5.ext e155
 have O10 := O10.ext e155
 have O11 := O11.ext e155
 have O12 := O12.ext e155
 have O13 := O13.ext e155
 have O19 := O19.ext e155
 have O20 := O20.ext e155
 have O21 := O21.ext e155
 have O22 := O22.ext e155
 have hB := ethen hB e155
 refine ⟨r151, rfl, ?_⟩
 refine brc H (fun h H => ?_) fun h H => ?_
 ·cases hr.trans H.symm
  exact ⟨rfl, hB⟩
 refine brc H (fun h H => ?_) fun h H => ?_
 ·cases hr.trans H.symm
  exact ⟨rfl, hB⟩
 refine ⟨_, _, _, (O22.a 0), _, _, _, (O22.a 1), _, _, _, (O22.a 2), _, (O22.a 3), _, (O22.a 4), ?_⟩
 obtain ⟨hp158, H⟩ := H
 obtain ⟨r156, hr157, H⟩ := callO H
 refine (laws_markBlock.con hp158 hr157 (O19.mono (Nat.zero_le _)) (O20.mono (Nat.zero_le _)) (O21.mono (Nat.zero_le _)) N20_21).mono ?_
 rintro _ w159 ⟨rfl, Q19, hl161, Q20, hl162, Q21, hl163, e160⟩
 have O22 := O22.chgS e160 (fun hS_ => hS_.elim (N19_22).inb (fun hS_ => hS_.elim N20_22 (N21_22).inb))
 have hB := Chg.ext hB e160 (fun g => (fun hS_ => hS_.elim (O19.low g) (fun hS_ => hS_.elim (O20.lowW g) (O21.low g))))
 have O19 := Q19.up O19
 have O20 := Q20.up O20
 have O21 := Q21.up O21
 refine ⟨r156.1, rfl, _, _, _, (O22.a 0), _, _, _, (O22.a 1), _, _, _, (O22.a 2), _, (O22.a 3), _, (O22.a 4), ?_⟩
 obtain ⟨hp166, H⟩ := H
 obtain ⟨r164, hr165, H⟩ := callO H
 refine (cllArgs (by first | (simp only [bC, wC, List.length_set, hl161, hl162, hl163]; done) | (simp; done)) (laws_heldBlock.con hp166 hr165 O19.row O19.le O20.row O20.le O21.row O21.le)).mono ?_
 rintro _ w167 ⟨rfl, e168⟩
 have O5 := (O5.chgS e160 (fun hS_ => hS_.elim (N19_5).inb (fun hS_ => hS_.elim N20_5 (N21_5).inb))).ext e168
 have O10 := (O10.chgS e160 (fun g h_ => (fun hS_ => hS_.elim ((N10_19).inb g h_) (fun hS_ => hS_.elim ((N20_10).symm g h_) ((N10_21).inb g h_))))).ext e168
 have O11 := (O11.kept e160 (fun g h_ => (fun hS_ => hS_.elim (N11_19 g h_) (fun hS_ => hS_.elim (N11_20 g h_) (N11_21 g h_))))).ext e168
 have O12 := (O12.chgS e160 (fun g h_ => (fun hS_ => hS_.elim ((N12_19).inb g h_) (fun hS_ => hS_.elim ((N20_12).symm g h_) ((N12_21).inb g h_))))).ext e168
 have O13 := (O13.chgS e160 (fun hS_ => hS_.elim (N19_13).inb (fun hS_ => hS_.elim N20_13 (N21_13).inb))).ext e168
 have O19 := O19.ext e168
 have O20 := O20.ext e168
 have O21 := O21.ext e168
 have O22 := O22.ext e168
 have hB := ethen hB e168
 refine ⟨r164, rfl, ?_⟩
 refine brc H (fun h H => ?_) fun h H => ?_
 ·cases hr.trans H.symm
  exact ⟨rfl, hB⟩
 refine brc H (fun h H => ?_) fun h H => ?_
 ·cases hr.trans H.symm
  exact ⟨rfl, hB⟩
 refine ⟨_, _, _, (O5.a 0), _, _, _, (O5.a 1), _, _, _, (O5.a 2), _, (O5.a 3), _, (O5.a 4), ?_⟩
 obtain ⟨hp171, H⟩ := H
 obtain ⟨r169, hr170, H⟩ := callO H
 refine (laws_toBlock.con hp171 hr170 (R0_0.ext hB) hc0_0 (R0_1.ext hB) hc0_1 (R0_2.ext hB) hc0_2).mono ?_
 rintro _ w172 ⟨A174, c175, A176, c177, F180, A178, c179, rfl, P27, P28, P29, N28_29, e173⟩
 have O27 := P27.mono hB.size
 have O28 := P28.mono hB.size
 have O29 := P29.mono hB.size
 have hB := ethen hB e173
 refine ⟨A174, r169.Code.length, c175, trivial, A176, r169.Warps.length, c177, trivial, A178, r169.Memory.length, c179, trivial, r169.Waiting, trivial, r169.Phase, trivial, rfl, ?_⟩
 obtain ⟨hp183, H⟩ := H
 obtain ⟨r181, hr182, H⟩ := callO H
 refine (laws_toIntS.con hp183 hr182 (R1.ext hB) hc1).mono ?_
 rintro _ w184 ⟨A186, c187, rfl, P30, e185⟩
 have O27 := O27.ext e185
 have O28 := O28.ext e185
 have O29 := O29.ext e185
 have O30 := P30.mono hB.size
 have hB := ethen hB e185
 refine ⟨A186, r181.length, c187, rfl, ?_⟩
 obtain ⟨hp190, H⟩ := H
 obtain ⟨r188, hr189, H⟩ := callO H
 refine (impl_RunPicks.con hp190 hr189 O27.row O27.le O28.row O28.le O29.row O29.le O30.row O30.le).mono ?_
 rintro _ w191 ⟨A193, c194, A195, c196, F199, A197, c198, rfl, P31, P32, P33, N32_33, e192⟩
 have O31 := P31.mono hB.size
 have O32 := P32.mono hB.size
 have O33 := P33.mono hB.size
 refine ⟨(.agg (bC A193 c194 A195 c196 A197 c198 r188.1)), A193, r188.1.Code.length, c194, trivial, A195, r188.1.Warps.length, c196, trivial, A197, r188.1.Memory.length, c198, trivial, r188.1.Waiting, trivial, r188.1.Phase, trivial, rfl, (iv r188.2), r188.2, rfl, rfl, ?_⟩
 refine newSt (bC A193 c194 A195 c196 A197 c198 r188.1) (fun g34_ w202 L34 O34 e203 => ?_)
 have O10 := (((O10.ext e173).ext e185).ext e192).ext e203
 have O11 := (((O11.ext e173).ext e185).ext e192).ext e203
 have O12 := (((O12.ext e173).ext e185).ext e192).ext e203
 have O13 := (((O13.ext e173).ext e185).ext e192).ext e203
 have O31 := O31.ext e203
 have O32 := O32.ext e203
 have O33 := O33.ext e203
 refine ⟨_, _, _, (O34.a 0), _, _, _, (O34.a 1), _, _, _, (O34.a 2), _, (O34.a 3), _, (O34.a 4), _, _, _, (O13.a 0), _, _, _, (O13.a 1), _, _, _, (O13.a 2), _, (O13.a 3), _, (O13.a 4), ?_⟩
 obtain ⟨hp206, H⟩ := H
 obtain ⟨r204, hr205, H⟩ := callO H
 refine (laws_eqBlock.con hp206 hr205 O31.row O31.le O32.row O32.le O33.row O33.le O10.row O10.le O11.row O11.le O12.row O12.le).mono ?_
 rintro _ w207 ⟨rfl, e208⟩
 have O19 := ((((O19.ext e173).ext e185).ext e192).ext e203).ext e208
 have O20 := ((((O20.ext e173).ext e185).ext e192).ext e203).ext e208
 have O21 := ((((O21.ext e173).ext e185).ext e192).ext e203).ext e208
 have O22 := ((((O22.ext e173).ext e185).ext e192).ext e203).ext e208
 have hB := ethen (ethen (ethen hB e192) e203) e208
 refine ⟨r204, rfl, ?_⟩
 refine brc H (fun h H => ?_) fun h H => ?_
 ·cases hr.trans H.symm
  exact ⟨rfl, hB⟩
 refine brc H (fun h H => ?_) fun h H => ?_
 ·cases hr.trans H.symm
  exact ⟨rfl, hB⟩
 refine ⟨_, _, _, (O22.a 0), _, _, _, (O22.a 1), _, _, _, (O22.a 2), _, (O22.a 3), _, (O22.a 4), ?_⟩
 obtain ⟨hp211, H⟩ := H
 obtain ⟨r209, hr210, H⟩ := callO H
 refine (cllArgs (by first | (simp only [bC, wC, List.length_set, hl161, hl162, hl163]; done) | (simp; done)) (laws_heldBlock.con hp211 hr210 O19.row O19.le O20.row O20.le O21.row O21.le)).mono ?_
 rintro _ w212 ⟨rfl, e213⟩
 have hB := ethen hB e213
 refine ⟨r209, rfl, ?_⟩
 refine brc H (fun h H => ?_) fun h H => ?_
 ·cases hr.trans H.symm
  exact ⟨rfl, hB⟩
 refine brc H (fun h H => ?_) fun h H => ?_
 ·cases hr.trans H.symm
  exact ⟨rfl, hB⟩
 cases hr.trans H.symm
 exact ⟨rfl, hB⟩
end Go.V
