import Derived.Test.YtkpfabigipedcaaGreatWaCon1
namespace Go.V
open Go.Proofs
open IntKind (wrap)
set_option linter.unusedVariables false
set_option linter.unusedSimpArgs false
set_option maxRecDepth 100000
def spec_l29Copy.vc (A0_0 : OA) (n0_0 c0_0 : Nat) (A0_1 : OA) (n0_1 c0_1 : Nat) (A0_2 : OA) (n0_2 c0_2 : Nat) (x0_3 x0_4 : Int) (w : World) (K : VK) : Prop :=
  newK w (.cells (vB A0_0 n0_0 c0_0 A0_1 n0_1 c0_1 A0_2 n0_2 c0_2 x0_3 x0_4) 33) fun g21 w22 => newK w22 (.cells zC 33) fun g23 w24 => JoinT (σ := Addr × Unit) (fun J25 => (∃ M26 : Nat → Prop, ldSM M26 w24 ((bx g21).add 0) 0 fun A27 n28 c29 => ldSM M26 w24 ((bx g21).add 2) 0 fun A30 n31 c32 => ldIM M26 w24 ((bx g21).add 3) 0 fun n33 => ldIM M26 w24 ((bx g21).add 4) 0 fun n34 => ((Run Tryz.prog (Instr.buildSlice 30 0 #[]) w24.drew fun v35 w36 => ∃ (A37 : OA) (n38 c39 : Nat), v35 = .slice A37 n38 c39 ∧ SameBut M26 w24 w36 ∧ ((Run Tryz.prog (Builtin.append_ #[30, 30] 30 #[(sv A37 n38 c39), (sv A27 n28 c29)]) w36 fun v40 w41 => ∃ (A42 : OA) (n43 c44 : Nat), v40 = .slice A42 n43 c44 ∧ SameBut M26 w24 w41 ∧ ((Run Tryz.prog (Instr.buildSlice 24 0 #[]) w41 fun v45 w46 => ∃ (A47 : OA) (n48 c49 : Nat), v45 = .slice A47 n48 c49 ∧ SameBut M26 w24 w46 ∧ ((Run Tryz.prog (Builtin.append_ #[24, 24] 24 #[(sv A47 n48 c49), (sv A30 n31 c32)]) w46 fun v50 w51 => ∃ (A52 : OA) (n53 c54 : Nat), v50 = .slice A52 n53 c54 ∧ SameBut M26 w24 w51 ∧ newK w51 (.cells zC 33) fun g55 w56 => SameBut M26 w24 w56 ∧ stCells (bx g55) [(sv A42 n43 c44), (sv none 0 0), (sv A52 n53 c54), (iv n33), (iv n34)] 0 w56 fun w57 => J25 ((bx g55), ()) w57) ∧ (newK w46 (.cells zC 33) fun g58 w59 => SameBut M26 w24 w59 ∧ Run Tryz.prog (Builtin.append_ #[24, 24] 24 #[(sv A47 n48 c49), (sv A30 n31 c32)]) w59 fun v60 w61 => ∃ (A62 : OA) (n63 c64 : Nat), v60 = .slice A62 n63 c64 ∧ SameBut M26 w24 w61 ∧ stCells (bx g58) [(sv A42 n43 c44), (sv none 0 0), (sv A62 n63 c64), (iv n33), (iv n34)] 0 w61 fun w65 => J25 ((bx g58), ()) w65) ∧ True)) ∧ (newK w41 (.cells zC 33) fun g66 w67 => SameBut M26 w24 w67 ∧ Run Tryz.prog (Instr.buildSlice 24 0 #[]) w67 fun v68 w69 => ∃ (A70 : OA) (n71 c72 : Nat), v68 = .slice A70 n71 c72 ∧ SameBut M26 w24 w69 ∧ Run Tryz.prog (Builtin.append_ #[24, 24] 24 #[(sv A70 n71 c72), (sv A30 n31 c32)]) w69 fun v73 w74 => ∃ (A75 : OA) (n76 c77 : Nat), v73 = .slice A75 n76 c77 ∧ SameBut M26 w24 w74 ∧ stCells (bx g66) [(sv A42 n43 c44), (sv none 0 0), (sv A75 n76 c77), (iv n33), (iv n34)] 0 w74 fun w78 => J25 ((bx g66), ()) w78) ∧ True)) ∧ (Run Tryz.prog (Instr.buildSlice 24 0 #[]) w36 fun v79 w80 => ∃ (A81 : OA) (n82 c83 : Nat), v79 = .slice A81 n82 c83 ∧ SameBut M26 w24 w80 ∧ ((Run Tryz.prog (Builtin.append_ #[30, 30] 30 #[(sv A37 n38 c39), (sv A27 n28 c29)]) w80 fun v84 w85 => ∃ (A86 : OA) (n87 c88 : Nat), v84 = .slice A86 n87 c88 ∧ SameBut M26 w24 w85 ∧ ((Run Tryz.prog (Builtin.append_ #[24, 24] 24 #[(sv A81 n82 c83), (sv A30 n31 c32)]) w85 fun v89 w90 => ∃ (A91 : OA) (n92 c93 : Nat), v89 = .slice A91 n92 c93 ∧ SameBut M26 w24 w90 ∧ newK w90 (.cells zC 33) fun g94 w95 => SameBut M26 w24 w95 ∧ stCells (bx g94) [(sv A86 n87 c88), (sv none 0 0), (sv A91 n92 c93), (iv n33), (iv n34)] 0 w95 fun w96 => J25 ((bx g94), ()) w96) ∧ (newK w85 (.cells zC 33) fun g97 w98 => SameBut M26 w24 w98 ∧ Run Tryz.prog (Builtin.append_ #[24, 24] 24 #[(sv A81 n82 c83), (sv A30 n31 c32)]) w98 fun v99 w100 => ∃ (A101 : OA) (n102 c103 : Nat), v99 = .slice A101 n102 c103 ∧ SameBut M26 w24 w100 ∧ stCells (bx g97) [(sv A86 n87 c88), (sv none 0 0), (sv A101 n102 c103), (iv n33), (iv n34)] 0 w100 fun w104 => J25 ((bx g97), ()) w104) ∧ True)) ∧ (newK w80 (.cells zC 33) fun g105 w106 => SameBut M26 w24 w106 ∧ Run Tryz.prog (Builtin.append_ #[30, 30] 30 #[(sv A37 n38 c39), (sv A27 n28 c29)]) w106 fun v107 w108 => ∃ (A109 : OA) (n110 c111 : Nat), v107 = .slice A109 n110 c111 ∧ SameBut M26 w24 w108 ∧ Run Tryz.prog (Builtin.append_ #[24, 24] 24 #[(sv A81 n82 c83), (sv A30 n31 c32)]) w108 fun v112 w113 => ∃ (A114 : OA) (n115 c116 : Nat), v112 = .slice A114 n115 c116 ∧ SameBut M26 w24 w113 ∧ stCells (bx g105) [(sv A109 n110 c111), (sv none 0 0), (sv A114 n115 c116), (iv n33), (iv n34)] 0 w113 fun w117 => J25 ((bx g105), ()) w117) ∧ True)) ∧ (newK w36 (.cells zC 33) fun g118 w119 => SameBut M26 w24 w119 ∧ ((Run Tryz.prog (Builtin.append_ #[30, 30] 30 #[(sv A37 n38 c39), (sv A27 n28 c29)]) w119 fun v120 w121 => ∃ (A122 : OA) (n123 c124 : Nat), v120 = .slice A122 n123 c124 ∧ SameBut M26 w24 w121 ∧ Run Tryz.prog (Instr.buildSlice 24 0 #[]) w121 fun v125 w126 => ∃ (A127 : OA) (n128 c129 : Nat), v125 = .slice A127 n128 c129 ∧ SameBut M26 w24 w126 ∧ Run Tryz.prog (Builtin.append_ #[24, 24] 24 #[(sv A127 n128 c129), (sv A30 n31 c32)]) w126 fun v130 w131 => ∃ (A132 : OA) (n133 c134 : Nat), v130 = .slice A132 n133 c134 ∧ SameBut M26 w24 w131 ∧ stCells (bx g118) [(sv A122 n123 c124), (sv none 0 0), (sv A132 n133 c134), (iv n33), (iv n34)] 0 w131 fun w135 => J25 ((bx g118), ()) w135) ∧ (Run Tryz.prog (Instr.buildSlice 24 0 #[]) w119 fun v136 w137 => ∃ (A138 : OA) (n139 c140 : Nat), v136 = .slice A138 n139 c140 ∧ SameBut M26 w24 w137 ∧ Run Tryz.prog (Builtin.append_ #[30, 30] 30 #[(sv A37 n38 c39), (sv A27 n28 c29)]) w137 fun v141 w142 => ∃ (A143 : OA) (n144 c145 : Nat), v141 = .slice A143 n144 c145 ∧ SameBut M26 w24 w142 ∧ Run Tryz.prog (Builtin.append_ #[24, 24] 24 #[(sv A138 n139 c140), (sv A30 n31 c32)]) w142 fun v146 w147 => ∃ (A148 : OA) (n149 c150 : Nat), v146 = .slice A148 n149 c150 ∧ SameBut M26 w24 w147 ∧ stCells (bx g118) [(sv A143 n144 c145), (sv none 0 0), (sv A148 n149 c150), (iv n33), (iv n34)] 0 w147 fun w151 => J25 ((bx g118), ()) w151) ∧ True)) ∧ True)) ∧ (Run Tryz.prog (Instr.buildSlice 24 0 #[]) w24.drew fun v152 w153 => ∃ (A154 : OA) (n155 c156 : Nat), v152 = .slice A154 n155 c156 ∧ SameBut M26 w24 w153 ∧ ((Run Tryz.prog (Instr.buildSlice 30 0 #[]) w153 fun v157 w158 => ∃ (A159 : OA) (n160 c161 : Nat), v157 = .slice A159 n160 c161 ∧ SameBut M26 w24 w158 ∧ ((Run Tryz.prog (Builtin.append_ #[30, 30] 30 #[(sv A159 n160 c161), (sv A27 n28 c29)]) w158 fun v162 w163 => ∃ (A164 : OA) (n165 c166 : Nat), v162 = .slice A164 n165 c166 ∧ SameBut M26 w24 w163 ∧ ((Run Tryz.prog (Builtin.append_ #[24, 24] 24 #[(sv A154 n155 c156), (sv A30 n31 c32)]) w163 fun v167 w168 => ∃ (A169 : OA) (n170 c171 : Nat), v167 = .slice A169 n170 c171 ∧ SameBut M26 w24 w168 ∧ newK w168 (.cells zC 33) fun g172 w173 => SameBut M26 w24 w173 ∧ stCells (bx g172) [(sv A164 n165 c166), (sv none 0 0), (sv A169 n170 c171), (iv n33), (iv n34)] 0 w173 fun w174 => J25 ((bx g172), ()) w174) ∧ (newK w163 (.cells zC 33) fun g175 w176 => SameBut M26 w24 w176 ∧ Run Tryz.prog (Builtin.append_ #[24, 24] 24 #[(sv A154 n155 c156), (sv A30 n31 c32)]) w176 fun v177 w178 => ∃ (A179 : OA) (n180 c181 : Nat), v177 = .slice A179 n180 c181 ∧ SameBut M26 w24 w178 ∧ stCells (bx g175) [(sv A164 n165 c166), (sv none 0 0), (sv A179 n180 c181), (iv n33), (iv n34)] 0 w178 fun w182 => J25 ((bx g175), ()) w182) ∧ True)) ∧ (newK w158 (.cells zC 33) fun g183 w184 => SameBut M26 w24 w184 ∧ Run Tryz.prog (Builtin.append_ #[30, 30] 30 #[(sv A159 n160 c161), (sv A27 n28 c29)]) w184 fun v185 w186 => ∃ (A187 : OA) (n188 c189 : Nat), v185 = .slice A187 n188 c189 ∧ SameBut M26 w24 w186 ∧ Run Tryz.prog (Builtin.append_ #[24, 24] 24 #[(sv A154 n155 c156), (sv A30 n31 c32)]) w186 fun v190 w191 => ∃ (A192 : OA) (n193 c194 : Nat), v190 = .slice A192 n193 c194 ∧ SameBut M26 w24 w191 ∧ stCells (bx g183) [(sv A187 n188 c189), (sv none 0 0), (sv A192 n193 c194), (iv n33), (iv n34)] 0 w191 fun w195 => J25 ((bx g183), ()) w195) ∧ True)) ∧ (newK w153 (.cells zC 33) fun g196 w197 => SameBut M26 w24 w197 ∧ Run Tryz.prog (Instr.buildSlice 30 0 #[]) w197 fun v198 w199 => ∃ (A200 : OA) (n201 c202 : Nat), v198 = .slice A200 n201 c202 ∧ SameBut M26 w24 w199 ∧ Run Tryz.prog (Builtin.append_ #[30, 30] 30 #[(sv A200 n201 c202), (sv A27 n28 c29)]) w199 fun v203 w204 => ∃ (A205 : OA) (n206 c207 : Nat), v203 = .slice A205 n206 c207 ∧ SameBut M26 w24 w204 ∧ Run Tryz.prog (Builtin.append_ #[24, 24] 24 #[(sv A154 n155 c156), (sv A30 n31 c32)]) w204 fun v208 w209 => ∃ (A210 : OA) (n211 c212 : Nat), v208 = .slice A210 n211 c212 ∧ SameBut M26 w24 w209 ∧ stCells (bx g196) [(sv A205 n206 c207), (sv none 0 0), (sv A210 n211 c212), (iv n33), (iv n34)] 0 w209 fun w213 => J25 ((bx g196), ()) w213) ∧ True)) ∧ (newK w24.drew (.cells zC 33) fun g214 w215 => SameBut M26 w24 w215 ∧ ((Run Tryz.prog (Instr.buildSlice 30 0 #[]) w215 fun v216 w217 => ∃ (A218 : OA) (n219 c220 : Nat), v216 = .slice A218 n219 c220 ∧ SameBut M26 w24 w217 ∧ ((Run Tryz.prog (Builtin.append_ #[30, 30] 30 #[(sv A218 n219 c220), (sv A27 n28 c29)]) w217 fun v221 w222 => ∃ (A223 : OA) (n224 c225 : Nat), v221 = .slice A223 n224 c225 ∧ SameBut M26 w24 w222 ∧ Run Tryz.prog (Instr.buildSlice 24 0 #[]) w222 fun v226 w227 => ∃ (A228 : OA) (n229 c230 : Nat), v226 = .slice A228 n229 c230 ∧ SameBut M26 w24 w227 ∧ Run Tryz.prog (Builtin.append_ #[24, 24] 24 #[(sv A228 n229 c230), (sv A30 n31 c32)]) w227 fun v231 w232 => ∃ (A233 : OA) (n234 c235 : Nat), v231 = .slice A233 n234 c235 ∧ SameBut M26 w24 w232 ∧ stCells (bx g214) [(sv A223 n224 c225), (sv none 0 0), (sv A233 n234 c235), (iv n33), (iv n34)] 0 w232 fun w236 => J25 ((bx g214), ()) w236) ∧ (Run Tryz.prog (Instr.buildSlice 24 0 #[]) w217 fun v237 w238 => ∃ (A239 : OA) (n240 c241 : Nat), v237 = .slice A239 n240 c241 ∧ SameBut M26 w24 w238 ∧ Run Tryz.prog (Builtin.append_ #[30, 30] 30 #[(sv A218 n219 c220), (sv A27 n28 c29)]) w238 fun v242 w243 => ∃ (A244 : OA) (n245 c246 : Nat), v242 = .slice A244 n245 c246 ∧ SameBut M26 w24 w243 ∧ Run Tryz.prog (Builtin.append_ #[24, 24] 24 #[(sv A239 n240 c241), (sv A30 n31 c32)]) w243 fun v247 w248 => ∃ (A249 : OA) (n250 c251 : Nat), v247 = .slice A249 n250 c251 ∧ SameBut M26 w24 w248 ∧ stCells (bx g214) [(sv A244 n245 c246), (sv none 0 0), (sv A249 n250 c251), (iv n33), (iv n34)] 0 w248 fun w252 => J25 ((bx g214), ()) w252) ∧ True)) ∧ (Run Tryz.prog (Instr.buildSlice 24 0 #[]) w215 fun v253 w254 => ∃ (A255 : OA) (n256 c257 : Nat), v253 = .slice A255 n256 c257 ∧ SameBut M26 w24 w254 ∧ Run Tryz.prog (Instr.buildSlice 30 0 #[]) w254 fun v258 w259 => ∃ (A260 : OA) (n261 c262 : Nat), v258 = .slice A260 n261 c262 ∧ SameBut M26 w24 w259 ∧ Run Tryz.prog (Builtin.append_ #[30, 30] 30 #[(sv A260 n261 c262), (sv A27 n28 c29)]) w259 fun v263 w264 => ∃ (A265 : OA) (n266 c267 : Nat), v263 = .slice A265 n266 c267 ∧ SameBut M26 w24 w264 ∧ Run Tryz.prog (Builtin.append_ #[24, 24] 24 #[(sv A255 n256 c257), (sv A30 n31 c32)]) w264 fun v268 w269 => ∃ (A270 : OA) (n271 c272 : Nat), v268 = .slice A270 n271 c272 ∧ SameBut M26 w24 w269 ∧ stCells (bx g214) [(sv A265 n266 c267), (sv none 0 0), (sv A270 n271 c272), (iv n33), (iv n34)] 0 w269 fun w273 => J25 ((bx g214), ()) w273) ∧ True)) ∧ True))) fun z274 w275 => LoopT (σ := Int × Unit) (fun z276 w277 next278 => ldS w277 (((bx g21).add 1).add 0) fun A279 n280 c281 => bcase (decide (z276.1 < ((n280 : Nat) : Int))) ((∃ M282 : Nat → Prop, ldSM M282 w277 (z274.1.add 1) 0 fun A283 n284 c285 => ldSM M282 w277 ((bx g21).add 1) 0 fun A286 n287 c288 => (idx z276.1 n287 A286 fun a289 => ldIM M282 w277 (a289.add ((z276.1.toNat) * 3)) 0 fun n290 => ldSM M282 w277 (a289.add ((z276.1.toNat) * 3)) 1 fun A291 n292 c293 => ldSM M282 w277 (a289.add ((z276.1.toNat) * 3)) 2 fun A294 n295 c296 => Cl 221 #[(.agg #[(iv n290), (sv A291 n292 c293), (sv A294 n295 c296)])] w277.drew fun v297 w298 => (∃ (n299 : Int), True ∧ ∃ (A300 : OA) (n301 c302 : Nat), True ∧ ∃ (A303 : OA) (n304 c305 : Nat), True ∧ v297 = (.agg #[(iv n299), (sv A300 n301 c302), (sv A303 n304 c305)]) ∧ SameBut M282 w277 w298 ∧ Run Tryz.prog (Instr.buildSlice 31 1 #[(0, (.agg #[(iv n299), (sv A300 n301 c302), (sv A303 n304 c305)]))]) w298 fun v306 w307 => ∃ (A308 : OA) (n309 c310 : Nat), v306 = .slice A308 n309 c310 ∧ SameBut M282 w277 w307 ∧ Run Tryz.prog (Builtin.append_ #[31, 31] 31 #[(sv A283 n284 c285), (sv A308 n309 c310)]) w307 fun v311 w312 => ∃ (A313 : OA) (n314 c315 : Nat), v311 = .slice A313 n314 c315 ∧ SameBut M282 w277 w312 ∧ stCells (z274.1.add 1) [(sv A313 n314 c315)] 0 w312 fun w316 => next278 ((wrap .i64 (z276.1 + 1)), ()) w316)))) (ldS w277 (z274.1.add 0) fun A317 n318 c319 => ldS w277 (z274.1.add 1) fun A320 n321 c322 => ldS w277 (z274.1.add 2) fun A323 n324 c325 => ldI w277 (z274.1.add 3) fun n326 => ldI w277 (z274.1.add 4) fun n327 => stCells (bx g23) [(sv A317 n318 c319), (sv A320 n321 c322), (sv A323 n324 c325), (iv n326), (iv n327)] 0 w277 fun w328 => ldB w328 (bx g23) fun A329 n330 c331 A332 n333 c334 A335 n336 c337 n338 n339 => K (.agg (vB A329 n330 c331 A332 n333 c334 A335 n336 c337 n338 n339)) w328)) (0, ()) w275

def spec_l29Copy.ann : Ann := (.seq .l (.cut [(3, .ptr)] .l (.seq (.seq .l (.one (.loop [(4, .int .i64)] (.seq (.seq .l (.two .l .l)) (.seq (.one .l) .l))))) (.seq .l .l))))

theorem spec_l29Copy.con {s0 r : D.Block} {A0_0 A0_1 A0_2 : OA} {c0_0 c0_1 c0_2 : Nat} {w : World} (hp : M.spec_l29Copy_pre s0) (hr : r = M.spec_l29Copy s0) (R0_0 : Row el84 w A0_0 s0.Code) (hc0_0 : s0.Code.length ≤ c0_0) (R0_1 : RowW 52 el91 el3 w A0_1 s0.Warps) (hc0_1 : s0.Warps.length ≤ c0_1) (R0_2 : Row el3 w A0_2 s0.Memory) (hc0_2 : s0.Memory.length ≤ c0_2) :
    Cl 199 #[(.agg (bC A0_0 c0_0 A0_1 c0_1 A0_2 c0_2 s0))] w (fun v_ w_ => ∃ (A0_ : OA) (c0_ : Nat) (A1_ : OA) (c1_ : Nat) (F1_ : Nat → Prop) (A2_ : OA) (c2_ : Nat), v_ = (.agg (bC A0_ c0_ A1_ c1_ A2_ c2_ r)) ∧ Own el84 w_ w.heap.size A0_ c0_ r.Code ∧ OwnW 52 el91 el3 w_ w.heap.size F1_ A1_ c1_ r.Warps ∧ Own el3 w_ w.heap.size A2_ c2_ r.Memory ∧ Dis (InW A1_ F1_) (InB A2_) ∧ Ext w w_) := by
 have H := wp.spec_l29Copy.math s0 hp
 refine begK mixed Tryz.f199 ann (vc A0_0 s0.Code.length c0_0 A0_1 s0.Warps.length c0_1 A0_2 s0.Memory.length c0_2 s0.Waiting s0.Phase) ?_
 unfold vc
 unfold wp.spec_l29Copy at H
 refine newBlk (fun g4_ w21 L4 O4 e22 => ?_)
 have hB := ethen (Ext.refl w) e22
 refine newBlk (fun g5_ w23 L5 P5 e24 => ?_)
 have O4 := O4.ext e24
 have O5 := P5
 have L5 := Nat.le_trans hB.size L5
 have hB := ethen hB e24
 obtain ⟨K544, hKK544, H⟩ := joinP_out H
 refine ⟨fun z_ w_ => ∃ (xs25 : List D.Ins) (xs29 : List D.Warp) (xs32 : List Int) (i35 i36 : Int) (g32_ : Nat) (A26 : OA) (c27 : Nat) (A30 : OA) (c31 : Nat) (F28 : Nat → Prop) (A33 : OA) (c34 : Nat), z_ = ((bx g32_), ()) ∧ K544 (xs25, xs29, xs32, i35, i36, ()) ∧ Ext w w_ ∧ Blk w_ g32_ 33 #[(sv A26 xs25.length c27), (sv A30 xs29.length c31), (sv A33 xs32.length c34), (iv i35), (iv i36)] ∧ w.heap.size ≤ g32_ ∧ Own el84 w_ w.heap.size A26 c27 xs25 ∧ OwnW 52 el91 el3 w_ w.heap.size F28 A30 c31 xs29 ∧ Own el3 w_ w.heap.size A33 c34 xs32 ∧ Blk w_ g4_ 33 (bC A0_0 c0_0 A0_1 c0_1 A0_2 c0_2 s0) ∧ Blk w_ g5_ 33 zC ∧ g4_ ≠ g32_ ∧ g5_ ≠ g32_ ∧ Dis (InW A30 F28) (InB A33), ?_, ?_⟩
 ·refine ⟨(fun _ => False), _, _, _, noM (O4.a 0), _, _, _, noM (O4.a 2), _, noM (O4.a 3), _, noM (O4.a 4), ?_⟩
  refine And.intro ?_ ?_
  ·have H := H.1
   have O4 := O4.ext (Ext.drew _)
   have O5 := O5.ext (Ext.drew _)
   have hB := ethen hB (Ext.drew _)
   have hS40 := (Chg.refl (fun _ => False) w23).then (Ext.drew _)
   refine buildOwn el84 ([] : List D.Ins) (fun _ => by kernel_rfl) rfl (fun A41 w42 P36 e43 => ?_)
   have N36_4 := P36.apart_old O4.lt
   have N36_5 := P36.apart_old O5.lt
   have O4 := O4.ext e43
   have O5 := O5.ext e43
   have LB36 := (P36.mono hS40.size).low
   have O36 := P36.mono hB.size
   have hB := ethen hB e43
   have hS40 := hS40.then e43
   refine ⟨sameBut_chg hS40, ?_⟩
   refine And.intro ?_ ?_
   ·have H := H.1
    obtain ⟨hl48, H⟩ := H
    refine appO slt30 O36 (R0_0.ext hB) hB.size hl48 (fun A44 c45 w46 P36 e47 => ?_)
    have O4 := O4.app e47 N36_4
    have O5 := O5.app e47 N36_5
    have hS40 := hS40.app e47 (fun g h_ => (Or.inl (LB36 g h_)))
    have hB := eapp hB e47 O36
    have O36 := P36
    refine ⟨sameBut_chg hS40, ?_⟩
    refine And.intro ?_ ?_
    ·have H := H.1
     refine buildOwn el3 ([] : List Int) (fun _ => by kernel_rfl) rfl (fun A49 w50 P37 e51 => ?_)
     have N37_4 := P37.apart_old O4.lt
     have N37_5 := P37.apart_old O5.lt
     have N36_37 := aN O36 P37
     have O4 := O4.ext e51
     have O5 := O5.ext e51
     have O36 := O36.ext e51
     have LB37 := (P37.mono hS40.size).low
     have O37 := P37.mono hB.size
     have hB := ethen hB e51
     have hS40 := hS40.then e51
     refine ⟨sameBut_chg hS40, ?_⟩
     refine And.intro ?_ ?_
     ·have H := H.1
      obtain ⟨hl56, H⟩ := H
      refine appO slt24 O37 (R0_2.ext hB) hB.size hl56 (fun A52 c53 w54 P37 e55 => ?_)
      have O4 := O4.app e55 N37_4
      have O5 := O5.app e55 N37_5
      have O36 := O36.app e55 N36_37
      have hS40 := hS40.app e55 (fun g h_ => (Or.inl (LB37 g h_)))
      have hB := eapp hB e55 O37
      have O37 := P37
      refine ⟨sameBut_chg hS40, ?_⟩
      refine newBlk (fun g38_ w57 L38 P38 e58 => ?_)
      have N4_38 := O4.ne L38
      have N5_38 := O5.ne L38
      have N36_38 := O36.apart_new L38
      have N37_38 := O37.apart_new L38
      have O38 := P38
      have L38 := Nat.le_trans hB.size L38
      have hB := ethen hB e58
      have hS40 := hS40.then e58
      refine ⟨sameBut_chg hS40, ?_⟩
      refine stBlk O38 (o := 0) (cs' := #[(sv A44 (((([] : List D.Ins) ++ s0.Code)).length) c45), (sv none 0 0), (sv A52 (((([] : List Int) ++ s0.Memory)).length) c53), (iv s0.Waiting), (iv s0.Phase)]) rfl rfl (Nat.le_of_ble_eq_true rfl) rfl (fun w59 O38 e60 => ?_)
      have O4 := (O4.ext e58).chg e60 N4_38
      have O5 := (O5.ext e58).chg e60 N5_38
      have O36 := (O36.ext e58).chg e60 N36_38
      have O37 := (O37.ext e58).chg e60 N37_38
      have hB := echg hB e60 L38
      exact ⟨_, [], _, _, _, g38_, A44, c45, none, 0, (fun _ => False), A52, c53, rfl, H, hB, O38, L38, O36, OwnW.nil, O37, O4, O5, N4_38, N5_38, nilW_dis⟩
     refine And.intro ?_ ?_
     ·have H := H.2.1
      refine newBlk (fun g39_ w61 L39 P39 e62 => ?_)
      have N4_39 := O4.ne L39
      have N5_39 := O5.ne L39
      have N36_39 := O36.apart_new L39
      have N37_39 := O37.apart_new L39
      have O37 := O37.ext e62
      have O39 := P39
      have L39 := Nat.le_trans hB.size L39
      have hB := ethen hB e62
      have hS40 := hS40.then e62
      refine ⟨sameBut_chg hS40, ?_⟩
      obtain ⟨hl67, H⟩ := H
      refine appO slt24 O37 (R0_2.ext hB) hB.size hl67 (fun A63 c64 w65 P37 e66 => ?_)
      have N37_39_ := Apart.app N37_39 e66 O39.lt
      have O39 := O39.app e66 N37_39
      have N37_39 := N37_39_
      have hS40 := hS40.app e66 (fun g h_ => (Or.inl (LB37 g h_)))
      have hB := eapp hB e66 O37
      refine ⟨sameBut_chg hS40, ?_⟩
      refine stBlk O39 (o := 0) (cs' := #[(sv A44 (((([] : List D.Ins) ++ s0.Code)).length) c45), (sv none 0 0), (sv A63 (((([] : List Int) ++ s0.Memory)).length) c64), (iv s0.Waiting), (iv s0.Phase)]) rfl rfl (Nat.le_of_ble_eq_true rfl) rfl (fun w68 O39 e69 => ?_)
      have O4 := ((O4.ext e62).app e66 N37_4).chg e69 N4_39
      have O5 := ((O5.ext e62).app e66 N37_5).chg e69 N5_39
      have O36 := ((O36.ext e62).app e66 N36_37).chg e69 N36_39
      have O37 := P37.chg e69 N37_39
      have hB := echg hB e69 L39
      exact ⟨_, [], _, _, _, g39_, A44, c45, none, 0, (fun _ => False), A63, c64, rfl, H, hB, O39, L39, O36, OwnW.nil, O37, O4, O5, N4_39, N5_39, nilW_dis⟩
     exact trivial
    refine And.intro ?_ ?_
    ·have H := H.2.1
     refine newBlk (fun g40_ w70 L40 P40 e71 => ?_)
     have N4_40 := O4.ne L40
     have N5_40 := O5.ne L40
     have N36_40 := O36.apart_new L40
     have O4 := O4.ext e71
     have O5 := O5.ext e71
     have O36 := O36.ext e71
     have O40 := P40
     have L40 := Nat.le_trans hB.size L40
     have hB := ethen hB e71
     have hS40 := hS40.then e71
     refine ⟨sameBut_chg hS40, ?_⟩
     refine buildOwn el3 ([] : List Int) (fun _ => by kernel_rfl) rfl (fun A72 w73 P41 e74 => ?_)
     have N41_4 := P41.apart_old O4.lt
     have N41_5 := P41.apart_old O5.lt
     have N36_41 := aN O36 P41
     have N41_40 := P41.apart_old O40.lt
     have O40 := O40.ext e74
     have LB41 := (P41.mono hS40.size).low
     have O41 := P41.mono hB.size
     have hB := ethen hB e74
     have hS40 := hS40.then e74
     refine ⟨sameBut_chg hS40, ?_⟩
     obtain ⟨hl79, H⟩ := H
     refine appO slt24 O41 (R0_2.ext hB) hB.size hl79 (fun A75 c76 w77 P41 e78 => ?_)
     have N41_40_ := Apart.app N41_40 e78 O40.lt
     have O40 := O40.app e78 N41_40
     have N41_40 := N41_40_
     have hS40 := hS40.app e78 (fun g h_ => (Or.inl (LB41 g h_)))
     have hB := eapp hB e78 O41
     refine ⟨sameBut_chg hS40, ?_⟩
     refine stBlk O40 (o := 0) (cs' := #[(sv A44 (((([] : List D.Ins) ++ s0.Code)).length) c45), (sv none 0 0), (sv A75 (((([] : List Int) ++ s0.Memory)).length) c76), (iv s0.Waiting), (iv s0.Phase)]) rfl rfl (Nat.le_of_ble_eq_true rfl) rfl (fun w80 O40 e81 => ?_)
     have O4 := ((O4.ext e74).app e78 N41_4).chg e81 N4_40
     have O5 := ((O5.ext e74).app e78 N41_5).chg e81 N5_40
     have O36 := ((O36.ext e74).app e78 N36_41).chg e81 N36_40
     have O41 := P41.chg e81 N41_40
     have hB := echg hB e81 L40
     exact ⟨_, [], _, _, _, g40_, A44, c45, none, 0, (fun _ => False), A75, c76, rfl, H, hB, O40, L40, O36, OwnW.nil, O41, O4, O5, N4_40, N5_40, nilW_dis⟩
    exact trivial
   refine And.intro ?_ ?_
   ·have H := H.2.1
    refine buildOwn el3 ([] : List Int) (fun _ => by kernel_rfl) rfl (fun A82 w83 P42 e84 => ?_)
    have N42_4 := P42.apart_old O4.lt
    have N42_5 := P42.apart_old O5.lt
    have N36_42 := aN O36 P42
    have O4 := O4.ext e84
    have O5 := O5.ext e84
    have O36 := O36.ext e84
    have LB42 := (P42.mono hS40.size).low
    have O42 := P42.mono hB.size
    have hB := ethen hB e84
    have hS40 := hS40.then e84
    refine ⟨sameBut_chg hS40, ?_⟩
    refine And.intro ?_ ?_
    ·have H := H.1
     obtain ⟨hl89, H⟩ := H
     refine appO slt30 O36 (R0_0.ext hB) hB.size hl89 (fun A85 c86 w87 P36 e88 => ?_)
     have O4 := O4.app e88 N36_4
     have O5 := O5.app e88 N36_5
     have N42_36 := Apart2.app (N36_42).symm e88 O42
     have O42 := O42.app e88 (N36_42).symm
     have hS40 := hS40.app e88 (fun g h_ => (Or.inl (LB36 g h_)))
     have hB := eapp hB e88 O36
     have O36 := P36
     refine ⟨sameBut_chg hS40, ?_⟩
     refine And.intro ?_ ?_
     ·have H := H.1
      obtain ⟨hl94, H⟩ := H
      refine appO slt24 O42 (R0_2.ext hB) hB.size hl94 (fun A90 c91 w92 P42 e93 => ?_)
      have O4 := O4.app e93 N42_4
      have O5 := O5.app e93 N42_5
      have O36 := O36.app e93 (N42_36).symm
      have hS40 := hS40.app e93 (fun g h_ => (Or.inl (LB42 g h_)))
      have hB := eapp hB e93 O42
      have O42 := P42
      refine ⟨sameBut_chg hS40, ?_⟩
      refine newBlk (fun g43_ w95 L43 P43 e96 => ?_)
      have N4_43 := O4.ne L43
      have N5_43 := O5.ne L43
      have N36_43 := O36.apart_new L43
      have N42_43 := O42.apart_new L43
      have O43 := P43
      have L43 := Nat.le_trans hB.size L43
      have hB := ethen hB e96
      have hS40 := hS40.then e96
      refine ⟨sameBut_chg hS40, ?_⟩
      refine stBlk O43 (o := 0) (cs' := #[(sv A85 (((([] : List D.Ins) ++ s0.Code)).length) c86), (sv none 0 0), (sv A90 (((([] : List Int) ++ s0.Memory)).length) c91), (iv s0.Waiting), (iv s0.Phase)]) rfl rfl (Nat.le_of_ble_eq_true rfl) rfl (fun w97 O43 e98 => ?_)
      have O4 := (O4.ext e96).chg e98 N4_43
      have O5 := (O5.ext e96).chg e98 N5_43
      have O36 := (O36.ext e96).chg e98 N36_43
      have O42 := (O42.ext e96).chg e98 N42_43
      have hB := echg hB e98 L43
      exact ⟨_, [], _, _, _, g43_, A85, c86, none, 0, (fun _ => False), A90, c91, rfl, H, hB, O43, L43, O36, OwnW.nil, O42, O4, O5, N4_43, N5_43, nilW_dis⟩
     refine And.intro ?_ ?_
     ·have H := H.2.1
      refine newBlk (fun g44_ w99 L44 P44 e100 => ?_)
      have N4_44 := O4.ne L44
      have N5_44 := O5.ne L44
      have N36_44 := O36.apart_new L44
      have N42_44 := O42.apart_new L44
      have O42 := O42.ext e100
      have O44 := P44
      have L44 := Nat.le_trans hB.size L44
      have hB := ethen hB e100
      have hS40 := hS40.then e100
      refine ⟨sameBut_chg hS40, ?_⟩
      obtain ⟨hl105, H⟩ := H
      refine appO slt24 O42 (R0_2.ext hB) hB.size hl105 (fun A101 c102 w103 P42 e104 => ?_)
      have N42_44_ := Apart.app N42_44 e104 O44.lt
      have O44 := O44.app e104 N42_44
      have N42_44 := N42_44_
      have hS40 := hS40.app e104 (fun g h_ => (Or.inl (LB42 g h_)))
      have hB := eapp hB e104 O42
      refine ⟨sameBut_chg hS40, ?_⟩
      refine stBlk O44 (o := 0) (cs' := #[(sv A85 (((([] : List D.Ins) ++ s0.Code)).length) c86), (sv none 0 0), (sv A101 (((([] : List Int) ++ s0.Memory)).length) c102), (iv s0.Waiting), (iv s0.Phase)]) rfl rfl (Nat.le_of_ble_eq_true rfl) rfl (fun w106 O44 e107 => ?_)
      have O4 := ((O4.ext e100).app e104 N42_4).chg e107 N4_44
      have O5 := ((O5.ext e100).app e104 N42_5).chg e107 N5_44
      have O36 := ((O36.ext e100).app e104 (N42_36).symm).chg e107 N36_44
      have O42 := P42.chg e107 N42_44
      have hB := echg hB e107 L44
      exact ⟨_, [], _, _, _, g44_, A85, c86, none, 0, (fun _ => False), A101, c102, rfl, H, hB, O44, L44, O36, OwnW.nil, O42, O4, O5, N4_44, N5_44, nilW_dis⟩
     exact trivial
    refine And.intro ?_ ?_
    ·have H := H.2.1
     refine newBlk (fun g45_ w108 L45 P45 e109 => ?_)
     have N4_45 := O4.ne L45
     have N5_45 := O5.ne L45
     have N36_45 := O36.apart_new L45
     have N42_45 := O42.apart_new L45
     have O36 := O36.ext e109
     have O42 := O42.ext e109
     have O45 := P45
     have L45 := Nat.le_trans hB.size L45
     have hB := ethen hB e109
     have hS40 := hS40.then e109
     refine ⟨sameBut_chg hS40, ?_⟩
     obtain ⟨hl114, H⟩ := H
     refine appO slt30 O36 (R0_0.ext hB) hB.size hl114 (fun A110 c111 w112 P36 e113 => ?_)
     have N42_36 := Apart2.app (N36_42).symm e113 O42
     have O42 := O42.app e113 (N36_42).symm
     have N36_45_ := Apart.app N36_45 e113 O45.lt
     have O45 := O45.app e113 N36_45
     have N36_45 := N36_45_
     have hS40 := hS40.app e113 (fun g h_ => (Or.inl (LB36 g h_)))
     have hB := eapp hB e113 O36
     refine ⟨sameBut_chg hS40, ?_⟩
     obtain ⟨hl119, H⟩ := H
     refine appO slt24 O42 (R0_2.ext hB) hB.size hl119 (fun A115 c116 w117 P42 e118 => ?_)
     have N42_45_ := Apart.app N42_45 e118 O45.lt
     have O45 := O45.app e118 N42_45
     have N42_45 := N42_45_
     have hS40 := hS40.app e118 (fun g h_ => (Or.inl (LB42 g h_)))
     have hB := eapp hB e118 O42
     refine ⟨sameBut_chg hS40, ?_⟩
     refine stBlk O45 (o := 0) (cs' := #[(sv A110 (((([] : List D.Ins) ++ s0.Code)).length) c111), (sv none 0 0), (sv A115 (((([] : List Int) ++ s0.Memory)).length) c116), (iv s0.Waiting), (iv s0.Phase)]) rfl rfl (Nat.le_of_ble_eq_true rfl) rfl (fun w120 O45 e121 => ?_)
     have O4 := (((O4.ext e109).app e113 N36_4).app e118 N42_4).chg e121 N4_45
     have O5 := (((O5.ext e109).app e113 N36_5).app e118 N42_5).chg e121 N5_45
     have O36 := (P36.app e118 (N42_36).symm).chg e121 N36_45
     have O42 := P42.chg e121 N42_45
     have hB := echg hB e121 L45
     exact ⟨_, [], _, _, _, g45_, A110, c111, none, 0, (fun _ => False), A115, c116, rfl, H, hB, O45, L45, O36, OwnW.nil, O42, O4, O5, N4_45, N5_45, nilW_dis⟩
    exact trivial
   refine And.intro ?_ ?_
   ·have H := H.2.2.1
    refine newBlk (fun g46_ w122 L46 P46 e123 => ?_)
    have N4_46 := O4.ne L46
    have N5_46 := O5.ne L46
    have N36_46 := O36.apart_new L46
    have O4 := O4.ext e123
    have O5 := O5.ext e123
    have O36 := O36.ext e123
    have O46 := P46
    have L46 := Nat.le_trans hB.size L46
    have hB := ethen hB e123
    have hS40 := hS40.then e123
    refine ⟨sameBut_chg hS40, ?_⟩
    refine And.intro ?_ ?_
    ·have H := H.1
     obtain ⟨hl128, H⟩ := H
     refine appO slt30 O36 (R0_0.ext hB) hB.size hl128 (fun A124 c125 w126 P36 e127 => ?_)
     have O4 := O4.app e127 N36_4
     have O5 := O5.app e127 N36_5
     have N36_46_ := Apart.app N36_46 e127 O46.lt
     have O46 := O46.app e127 N36_46
     have N36_46 := N36_46_
     have hS40 := hS40.app e127 (fun g h_ => (Or.inl (LB36 g h_)))
     have hB := eapp hB e127 O36
     have O36 := P36
     refine ⟨sameBut_chg hS40, ?_⟩
     refine buildOwn el3 ([] : List Int) (fun _ => by kernel_rfl) rfl (fun A129 w130 P47 e131 => ?_)
     have N47_4 := P47.apart_old O4.lt
     have N47_5 := P47.apart_old O5.lt
     have N36_47 := aN O36 P47
     have N47_46 := P47.apart_old O46.lt
     have O46 := O46.ext e131
     have LB47 := (P47.mono hS40.size).low
     have O47 := P47.mono hB.size
     have hB := ethen hB e131
     have hS40 := hS40.then e131
     refine ⟨sameBut_chg hS40, ?_⟩
     obtain ⟨hl136, H⟩ := H
     refine appO slt24 O47 (R0_2.ext hB) hB.size hl136 (fun A132 c133 w134 P47 e135 => ?_)
     have N47_46_ := Apart.app N47_46 e135 O46.lt
     have O46 := O46.app e135 N47_46
     have N47_46 := N47_46_
     have hS40 := hS40.app e135 (fun g h_ => (Or.inl (LB47 g h_)))
     have hB := eapp hB e135 O47
     refine ⟨sameBut_chg hS40, ?_⟩
     refine stBlk O46 (o := 0) (cs' := #[(sv A124 (((([] : List D.Ins) ++ s0.Code)).length) c125), (sv none 0 0), (sv A132 (((([] : List Int) ++ s0.Memory)).length) c133), (iv s0.Waiting), (iv s0.Phase)]) rfl rfl (Nat.le_of_ble_eq_true rfl) rfl (fun w137 O46 e138 => ?_)
     have O4 := ((O4.ext e131).app e135 N47_4).chg e138 N4_46
     have O5 := ((O5.ext e131).app e135 N47_5).chg e138 N5_46
     have O36 := ((O36.ext e131).app e135 N36_47).chg e138 N36_46
     have O47 := P47.chg e138 N47_46
     have hB := echg hB e138 L46
     exact ⟨_, [], _, _, _, g46_, A124, c125, none, 0, (fun _ => False), A132, c133, rfl, H, hB, O46, L46, O36, OwnW.nil, O47, O4, O5, N4_46, N5_46, nilW_dis⟩
    refine And.intro ?_ ?_
    ·have H := H.2.1
     refine buildOwn el3 ([] : List Int) (fun _ => by kernel_rfl) rfl (fun A139 w140 P48 e141 => ?_)
     have N48_4 := P48.apart_old O4.lt
     have N48_5 := P48.apart_old O5.lt
     have N36_48 := aN O36 P48
     have N48_46 := P48.apart_old O46.lt
     have O36 := O36.ext e141
     have O46 := O46.ext e141
     have LB48 := (P48.mono hS40.size).low
     have O48 := P48.mono hB.size
     have hB := ethen hB e141
     have hS40 := hS40.then e141
     refine ⟨sameBut_chg hS40, ?_⟩
     obtain ⟨hl146, H⟩ := H
     refine appO slt30 O36 (R0_0.ext hB) hB.size hl146 (fun A142 c143 w144 P36 e145 => ?_)
     have N36_46_ := Apart.app N36_46 e145 O46.lt
     have O46 := O46.app e145 N36_46
     have N48_36 := Apart2.app (N36_48).symm e145 O48
     have O48 := O48.app e145 (N36_48).symm
     have N36_46 := N36_46_
     have hS40 := hS40.app e145 (fun g h_ => (Or.inl (LB36 g h_)))
     have hB := eapp hB e145 O36
     refine ⟨sameBut_chg hS40, ?_⟩
     obtain ⟨hl151, H⟩ := H
     refine appO slt24 O48 (R0_2.ext hB) hB.size hl151 (fun A147 c148 w149 P48 e150 => ?_)
     have N48_46_ := Apart.app N48_46 e150 O46.lt
     have O46 := O46.app e150 N48_46
     have N48_46 := N48_46_
     have hS40 := hS40.app e150 (fun g h_ => (Or.inl (LB48 g h_)))
     have hB := eapp hB e150 O48
     refine ⟨sameBut_chg hS40, ?_⟩
     refine stBlk O46 (o := 0) (cs' := #[(sv A142 (((([] : List D.Ins) ++ s0.Code)).length) c143), (sv none 0 0), (sv A147 (((([] : List Int) ++ s0.Memory)).length) c148), (iv s0.Waiting), (iv s0.Phase)]) rfl rfl (Nat.le_of_ble_eq_true rfl) rfl (fun w152 O46 e153 => ?_)
     have O4 := (((O4.ext e141).app e145 N36_4).app e150 N48_4).chg e153 N4_46
     have O5 := (((O5.ext e141).app e145 N36_5).app e150 N48_5).chg e153 N5_46
     have O36 := (P36.app e150 (N48_36).symm).chg e153 N36_46
     have O48 := P48.chg e153 N48_46
     have hB := echg hB e153 L46
     exact ⟨_, [], _, _, _, g46_, A142, c143, none, 0, (fun _ => False), A147, c148, rfl, H, hB, O46, L46, O36, OwnW.nil, O48, O4, O5, N4_46, N5_46, nilW_dis⟩
    exact trivial
   exact trivial
  refine And.intro ?_ ?_
  ·have H := H.2.1
   have O4 := O4.ext (Ext.drew _)
   have O5 := O5.ext (Ext.drew _)
   have hB := ethen hB (Ext.drew _)
   have hS40 := (Chg.refl (fun _ => False) w23).then (Ext.drew _)
   refine buildOwn el3 ([] : List Int) (fun _ => by kernel_rfl) rfl (fun A154 w155 P49 e156 => ?_)
   have N49_4 := P49.apart_old O4.lt
   have N49_5 := P49.apart_old O5.lt
   have O4 := O4.ext e156
   have O5 := O5.ext e156
   have LB49 := (P49.mono hS40.size).low
   have O49 := P49.mono hB.size
   have hB := ethen hB e156
   have hS40 := hS40.then e156
   refine ⟨sameBut_chg hS40, ?_⟩
   refine And.intro ?_ ?_
   ·have H := H.1
    refine buildOwn el84 ([] : List D.Ins) (fun _ => by kernel_rfl) rfl (fun A157 w158 P50 e159 => ?_)
    have N50_4 := P50.apart_old O4.lt
    have N50_5 := P50.apart_old O5.lt
    have N49_50 := aN O49 P50
    have O4 := O4.ext e159
    have O5 := O5.ext e159
    have O49 := O49.ext e159
    have LB50 := (P50.mono hS40.size).low
    have O50 := P50.mono hB.size
    have hB := ethen hB e159
    have hS40 := hS40.then e159
    refine ⟨sameBut_chg hS40, ?_⟩
    refine And.intro ?_ ?_
    ·have H := H.1
     obtain ⟨hl164, H⟩ := H
     refine appO slt30 O50 (R0_0.ext hB) hB.size hl164 (fun A160 c161 w162 P50 e163 => ?_)
     have O4 := O4.app e163 N50_4
     have O5 := O5.app e163 N50_5
     have N49_50_ := Apart2.app N49_50 e163 O49
     have O49 := O49.app e163 N49_50
     have N49_50 := N49_50_
     have hS40 := hS40.app e163 (fun g h_ => (Or.inl (LB50 g h_)))
     have hB := eapp hB e163 O50
     have O50 := P50
     refine ⟨sameBut_chg hS40, ?_⟩
     refine And.intro ?_ ?_
     ·have H := H.1
      obtain ⟨hl169, H⟩ := H
      refine appO slt24 O49 (R0_2.ext hB) hB.size hl169 (fun A165 c166 w167 P49 e168 => ?_)
      have O4 := O4.app e168 N49_4
      have O5 := O5.app e168 N49_5
      have O50 := O50.app e168 (N49_50).symm
      have hS40 := hS40.app e168 (fun g h_ => (Or.inl (LB49 g h_)))
      have hB := eapp hB e168 O49
      have O49 := P49
      refine ⟨sameBut_chg hS40, ?_⟩
      refine newBlk (fun g51_ w170 L51 P51 e171 => ?_)
      have N4_51 := O4.ne L51
      have N5_51 := O5.ne L51
      have N49_51 := O49.apart_new L51
      have N50_51 := O50.apart_new L51
      have O51 := P51
      have L51 := Nat.le_trans hB.size L51
      have hB := ethen hB e171
      have hS40 := hS40.then e171
      refine ⟨sameBut_chg hS40, ?_⟩
      refine stBlk O51 (o := 0) (cs' := #[(sv A160 (((([] : List D.Ins) ++ s0.Code)).length) c161), (sv none 0 0), (sv A165 (((([] : List Int) ++ s0.Memory)).length) c166), (iv s0.Waiting), (iv s0.Phase)]) rfl rfl (Nat.le_of_ble_eq_true rfl) rfl (fun w172 O51 e173 => ?_)
      have O4 := (O4.ext e171).chg e173 N4_51
      have O5 := (O5.ext e171).chg e173 N5_51
      have O49 := (O49.ext e171).chg e173 N49_51
      have O50 := (O50.ext e171).chg e173 N50_51
      have hB := echg hB e173 L51
      exact ⟨_, [], _, _, _, g51_, A160, c161, none, 0, (fun _ => False), A165, c166, rfl, H, hB, O51, L51, O50, OwnW.nil, O49, O4, O5, N4_51, N5_51, nilW_dis⟩
     refine And.intro ?_ ?_
     ·have H := H.2.1
      refine newBlk (fun g52_ w174 L52 P52 e175 => ?_)
      have N4_52 := O4.ne L52
      have N5_52 := O5.ne L52
      have N49_52 := O49.apart_new L52
      have N50_52 := O50.apart_new L52
      have O49 := O49.ext e175
      have O52 := P52
      have L52 := Nat.le_trans hB.size L52
      have hB := ethen hB e175
      have hS40 := hS40.then e175
      refine ⟨sameBut_chg hS40, ?_⟩
      obtain ⟨hl180, H⟩ := H
      refine appO slt24 O49 (R0_2.ext hB) hB.size hl180 (fun A176 c177 w178 P49 e179 => ?_)
      have N49_52_ := Apart.app N49_52 e179 O52.lt
      have O52 := O52.app e179 N49_52
      have N49_52 := N49_52_
      have hS40 := hS40.app e179 (fun g h_ => (Or.inl (LB49 g h_)))
      have hB := eapp hB e179 O49
      refine ⟨sameBut_chg hS40, ?_⟩
      refine stBlk O52 (o := 0) (cs' := #[(sv A160 (((([] : List D.Ins) ++ s0.Code)).length) c161), (sv none 0 0), (sv A176 (((([] : List Int) ++ s0.Memory)).length) c177), (iv s0.Waiting), (iv s0.Phase)]) rfl rfl (Nat.le_of_ble_eq_true rfl) rfl (fun w181 O52 e182 => ?_)
      have O4 := ((O4.ext e175).app e179 N49_4).chg e182 N4_52
      have O5 := ((O5.ext e175).app e179 N49_5).chg e182 N5_52
      have O49 := P49.chg e182 N49_52
      have O50 := ((O50.ext e175).app e179 (N49_50).symm).chg e182 N50_52
      have hB := echg hB e182 L52
      exact ⟨_, [], _, _, _, g52_, A160, c161, none, 0, (fun _ => False), A176, c177, rfl, H, hB, O52, L52, O50, OwnW.nil, O49, O4, O5, N4_52, N5_52, nilW_dis⟩
     exact trivial
    refine And.intro ?_ ?_
    ·have H := H.2.1
     refine newBlk (fun g53_ w183 L53 P53 e184 => ?_)
     have N4_53 := O4.ne L53
     have N5_53 := O5.ne L53
     have N49_53 := O49.apart_new L53
     have N50_53 := O50.apart_new L53
     have O49 := O49.ext e184
     have O50 := O50.ext e184
     have O53 := P53
     have L53 := Nat.le_trans hB.size L53
     have hB := ethen hB e184
     have hS40 := hS40.then e184
     refine ⟨sameBut_chg hS40, ?_⟩
     obtain ⟨hl189, H⟩ := H
     refine appO slt30 O50 (R0_0.ext hB) hB.size hl189 (fun A185 c186 w187 P50 e188 => ?_)
     have N49_50_ := Apart2.app N49_50 e188 O49
     have O49 := O49.app e188 N49_50
     have N50_53_ := Apart.app N50_53 e188 O53.lt
     have O53 := O53.app e188 N50_53
     have N49_50 := N49_50_
     have N50_53 := N50_53_
     have hS40 := hS40.app e188 (fun g h_ => (Or.inl (LB50 g h_)))
     have hB := eapp hB e188 O50
     refine ⟨sameBut_chg hS40, ?_⟩
     obtain ⟨hl194, H⟩ := H
     refine appO slt24 O49 (R0_2.ext hB) hB.size hl194 (fun A190 c191 w192 P49 e193 => ?_)
     have N49_53_ := Apart.app N49_53 e193 O53.lt
     have O53 := O53.app e193 N49_53
     have N49_53 := N49_53_
     have hS40 := hS40.app e193 (fun g h_ => (Or.inl (LB49 g h_)))
     have hB := eapp hB e193 O49
     refine ⟨sameBut_chg hS40, ?_⟩
     refine stBlk O53 (o := 0) (cs' := #[(sv A185 (((([] : List D.Ins) ++ s0.Code)).length) c186), (sv none 0 0), (sv A190 (((([] : List Int) ++ s0.Memory)).length) c191), (iv s0.Waiting), (iv s0.Phase)]) rfl rfl (Nat.le_of_ble_eq_true rfl) rfl (fun w195 O53 e196 => ?_)
     have O4 := (((O4.ext e184).app e188 N50_4).app e193 N49_4).chg e196 N4_53
     have O5 := (((O5.ext e184).app e188 N50_5).app e193 N49_5).chg e196 N5_53
     have O49 := P49.chg e196 N49_53
     have O50 := (P50.app e193 (N49_50).symm).chg e196 N50_53
     have hB := echg hB e196 L53
     exact ⟨_, [], _, _, _, g53_, A185, c186, none, 0, (fun _ => False), A190, c191, rfl, H, hB, O53, L53, O50, OwnW.nil, O49, O4, O5, N4_53, N5_53, nilW_dis⟩
    exact trivial
   refine And.intro ?_ ?_
   ·have H := H.2.1
    refine newBlk (fun g54_ w197 L54 P54 e198 => ?_)
    have N4_54 := O4.ne L54
    have N5_54 := O5.ne L54
    have N49_54 := O49.apart_new L54
    have O4 := O4.ext e198
    have O5 := O5.ext e198
    have O49 := O49.ext e198
    have O54 := P54
    have L54 := Nat.le_trans hB.size L54
    have hB := ethen hB e198
    have hS40 := hS40.then e198
    refine ⟨sameBut_chg hS40, ?_⟩
    refine buildOwn el84 ([] : List D.Ins) (fun _ => by kernel_rfl) rfl (fun A199 w200 P55 e201 => ?_)
    have N55_4 := P55.apart_old O4.lt
    have N55_5 := P55.apart_old O5.lt
    have N49_55 := aN O49 P55
    have N55_54 := P55.apart_old O54.lt
    have O49 := O49.ext e201
    have O54 := O54.ext e201
    have LB55 := (P55.mono hS40.size).low
    have O55 := P55.mono hB.size
    have hB := ethen hB e201
    have hS40 := hS40.then e201
    refine ⟨sameBut_chg hS40, ?_⟩
    obtain ⟨hl206, H⟩ := H
    refine appO slt30 O55 (R0_0.ext hB) hB.size hl206 (fun A202 c203 w204 P55 e205 => ?_)
    have N49_55_ := Apart2.app N49_55 e205 O49
    have O49 := O49.app e205 N49_55
    have N55_54_ := Apart.app N55_54 e205 O54.lt
    have O54 := O54.app e205 N55_54
    have N49_55 := N49_55_
    have N55_54 := N55_54_
    have hS40 := hS40.app e205 (fun g h_ => (Or.inl (LB55 g h_)))
    have hB := eapp hB e205 O55
    refine ⟨sameBut_chg hS40, ?_⟩
    obtain ⟨hl211, H⟩ := H
    refine appO slt24 O49 (R0_2.ext hB) hB.size hl211 (fun A207 c208 w209 P49 e210 => ?_)
    have N49_54_ := Apart.app N49_54 e210 O54.lt
    have O54 := O54.app e210 N49_54
    have N49_54 := N49_54_
    have hS40 := hS40.app e210 (fun g h_ => (Or.inl (LB49 g h_)))
    have hB := eapp hB e210 O49
    refine ⟨sameBut_chg hS40, ?_⟩
    refine stBlk O54 (o := 0) (cs' := #[(sv A202 (((([] : List D.Ins) ++ s0.Code)).length) c203), (sv none 0 0), (sv A207 (((([] : List Int) ++ s0.Memory)).length) c208), (iv s0.Waiting), (iv s0.Phase)]) rfl rfl (Nat.le_of_ble_eq_true rfl) rfl (fun w212 O54 e213 => ?_)
    have O4 := (((O4.ext e201).app e205 N55_4).app e210 N49_4).chg e213 N4_54
    have O5 := (((O5.ext e201).app e205 N55_5).app e210 N49_5).chg e213 N5_54
    have O49 := P49.chg e213 N49_54
    have O55 := (P55.app e210 (N49_55).symm).chg e213 N55_54
    have hB := echg hB e213 L54
    exact ⟨_, [], _, _, _, g54_, A202, c203, none, 0, (fun _ => False), A207, c208, rfl, H, hB, O54, L54, O55, OwnW.nil, O49, O4, O5, N4_54, N5_54, nilW_dis⟩
   exact trivial
  refine And.intro ?_ ?_
  ·have H := H.2.2.1
   have O4 := O4.ext (Ext.drew _)
   have O5 := O5.ext (Ext.drew _)
   have hB := ethen hB (Ext.drew _)
   refine newBlk (fun g56_ w214 L56 P56 e215 => ?_)
   have N4_56 := O4.ne L56
   have N5_56 := O5.ne L56
   have O4 := O4.ext e215
   have O5 := O5.ext e215
   have O56 := P56
   have L56 := Nat.le_trans hB.size L56
   have hB := ethen hB e215
   have hS40 := ((Chg.refl (fun _ => False) w23).then (Ext.drew _)).then e215
   refine ⟨sameBut_chg hS40, ?_⟩
   refine And.intro ?_ ?_
   ·have H := H.1
    refine buildOwn el84 ([] : List D.Ins) (fun _ => by kernel_rfl) rfl (fun A216 w217 P57 e218 => ?_)
    have N57_4 := P57.apart_old O4.lt
    have N57_5 := P57.apart_old O5.lt
    have N57_56 := P57.apart_old O56.lt
    have O4 := O4.ext e218
    have O5 := O5.ext e218
    have O56 := O56.ext e218
    have LB57 := (P57.mono hS40.size).low
    have O57 := P57.mono hB.size
    have hB := ethen hB e218
    have hS40 := hS40.then e218
    refine ⟨sameBut_chg hS40, ?_⟩
    refine And.intro ?_ ?_
    ·have H := H.1
     obtain ⟨hl223, H⟩ := H
     refine appO slt30 O57 (R0_0.ext hB) hB.size hl223 (fun A219 c220 w221 P57 e222 => ?_)
     have O4 := O4.app e222 N57_4
     have O5 := O5.app e222 N57_5
     have N57_56_ := Apart.app N57_56 e222 O56.lt
     have O56 := O56.app e222 N57_56
     have N57_56 := N57_56_
     have hS40 := hS40.app e222 (fun g h_ => (Or.inl (LB57 g h_)))
     have hB := eapp hB e222 O57
     have O57 := P57
     refine ⟨sameBut_chg hS40, ?_⟩
     refine buildOwn el3 ([] : List Int) (fun _ => by kernel_rfl) rfl (fun A224 w225 P58 e226 => ?_)
     have N58_4 := P58.apart_old O4.lt
     have N58_5 := P58.apart_old O5.lt
     have N58_56 := P58.apart_old O56.lt
     have N57_58 := aN O57 P58
     have O56 := O56.ext e226
     have LB58 := (P58.mono hS40.size).low
     have O58 := P58.mono hB.size
     have hB := ethen hB e226
     have hS40 := hS40.then e226
     refine ⟨sameBut_chg hS40, ?_⟩
     obtain ⟨hl231, H⟩ := H
     refine appO slt24 O58 (R0_2.ext hB) hB.size hl231 (fun A227 c228 w229 P58 e230 => ?_)
     have N58_56_ := Apart.app N58_56 e230 O56.lt
     have O56 := O56.app e230 N58_56
     have N58_56 := N58_56_
     have hS40 := hS40.app e230 (fun g h_ => (Or.inl (LB58 g h_)))
     have hB := eapp hB e230 O58
     refine ⟨sameBut_chg hS40, ?_⟩
     refine stBlk O56 (o := 0) (cs' := #[(sv A219 (((([] : List D.Ins) ++ s0.Code)).length) c220), (sv none 0 0), (sv A227 (((([] : List Int) ++ s0.Memory)).length) c228), (iv s0.Waiting), (iv s0.Phase)]) rfl rfl (Nat.le_of_ble_eq_true rfl) rfl (fun w232 O56 e233 => ?_)
     have O4 := ((O4.ext e226).app e230 N58_4).chg e233 N4_56
     have O5 := ((O5.ext e226).app e230 N58_5).chg e233 N5_56
     have O57 := ((O57.ext e226).app e230 N57_58).chg e233 N57_56
     have O58 := P58.chg e233 N58_56
     have hB := echg hB e233 L56
     exact ⟨_, [], _, _, _, g56_, A219, c220, none, 0, (fun _ => False), A227, c228, rfl, H, hB, O56, L56, O57, OwnW.nil, O58, O4, O5, N4_56, N5_56, nilW_dis⟩
    refine And.intro ?_ ?_
    ·have H := H.2.1
     refine buildOwn el3 ([] : List Int) (fun _ => by kernel_rfl) rfl (fun A234 w235 P59 e236 => ?_)
     have N59_4 := P59.apart_old O4.lt
     have N59_5 := P59.apart_old O5.lt
     have N59_56 := P59.apart_old O56.lt
     have N57_59 := aN O57 P59
     have O56 := O56.ext e236
     have O57 := O57.ext e236
     have LB59 := (P59.mono hS40.size).low
     have O59 := P59.mono hB.size
     have hB := ethen hB e236
     have hS40 := hS40.then e236
     refine ⟨sameBut_chg hS40, ?_⟩
     obtain ⟨hl241, H⟩ := H
     refine appO slt30 O57 (R0_0.ext hB) hB.size hl241 (fun A237 c238 w239 P57 e240 => ?_)
     have N57_56_ := Apart.app N57_56 e240 O56.lt
     have O56 := O56.app e240 N57_56
     have N59_57 := Apart2.app (N57_59).symm e240 O59
     have O59 := O59.app e240 (N57_59).symm
     have N57_56 := N57_56_
     have hS40 := hS40.app e240 (fun g h_ => (Or.inl (LB57 g h_)))
     have hB := eapp hB e240 O57
     refine ⟨sameBut_chg hS40, ?_⟩
     obtain ⟨hl246, H⟩ := H
     refine appO slt24 O59 (R0_2.ext hB) hB.size hl246 (fun A242 c243 w244 P59 e245 => ?_)
     have N59_56_ := Apart.app N59_56 e245 O56.lt
     have O56 := O56.app e245 N59_56
     have N59_56 := N59_56_
     have hS40 := hS40.app e245 (fun g h_ => (Or.inl (LB59 g h_)))
     have hB := eapp hB e245 O59
     refine ⟨sameBut_chg hS40, ?_⟩
     refine stBlk O56 (o := 0) (cs' := #[(sv A237 (((([] : List D.Ins) ++ s0.Code)).length) c238), (sv none 0 0), (sv A242 (((([] : List Int) ++ s0.Memory)).length) c243), (iv s0.Waiting), (iv s0.Phase)]) rfl rfl (Nat.le_of_ble_eq_true rfl) rfl (fun w247 O56 e248 => ?_)
     have O4 := (((O4.ext e236).app e240 N57_4).app e245 N59_4).chg e248 N4_56
     have O5 := (((O5.ext e236).app e240 N57_5).app e245 N59_5).chg e248 N5_56
     have O57 := (P57.app e245 (N59_57).symm).chg e248 N57_56
     have O59 := P59.chg e248 N59_56
     have hB := echg hB e248 L56
     exact ⟨_, [], _, _, _, g56_, A237, c238, none, 0, (fun _ => False), A242, c243, rfl, H, hB, O56, L56, O57, OwnW.nil, O59, O4, O5, N4_56, N5_56, nilW_dis⟩
    exact trivial
   refine And.intro ?_ ?_
   ·have H := H.2.1
    refine buildOwn el3 ([] : List Int) (fun _ => by kernel_rfl) rfl (fun A249 w250 P60 e251 => ?_)
    have N60_4 := P60.apart_old O4.lt
    have N60_5 := P60.apart_old O5.lt
    have N60_56 := P60.apart_old O56.lt
    have O4 := O4.ext e251
    have O5 := O5.ext e251
    have O56 := O56.ext e251
    have LB60 := (P60.mono hS40.size).low
    have O60 := P60.mono hB.size
    have hB := ethen hB e251
    have hS40 := hS40.then e251
    refine ⟨sameBut_chg hS40, ?_⟩
    refine buildOwn el84 ([] : List D.Ins) (fun _ => by kernel_rfl) rfl (fun A252 w253 P61 e254 => ?_)
    have N61_4 := P61.apart_old O4.lt
    have N61_5 := P61.apart_old O5.lt
    have N61_56 := P61.apart_old O56.lt
    have N60_61 := aN O60 P61
    have O56 := O56.ext e254
    have O60 := O60.ext e254
    have LB61 := (P61.mono hS40.size).low
    have O61 := P61.mono hB.size
    have hB := ethen hB e254
    have hS40 := hS40.then e254
    refine ⟨sameBut_chg hS40, ?_⟩
    obtain ⟨hl259, H⟩ := H
    refine appO slt30 O61 (R0_0.ext hB) hB.size hl259 (fun A255 c256 w257 P61 e258 => ?_)
    have N61_56_ := Apart.app N61_56 e258 O56.lt
    have O56 := O56.app e258 N61_56
    have N60_61_ := Apart2.app N60_61 e258 O60
    have O60 := O60.app e258 N60_61
    have N61_56 := N61_56_
    have N60_61 := N60_61_
    have hS40 := hS40.app e258 (fun g h_ => (Or.inl (LB61 g h_)))
    have hB := eapp hB e258 O61
    refine ⟨sameBut_chg hS40, ?_⟩
    obtain ⟨hl264, H⟩ := H
    refine appO slt24 O60 (R0_2.ext hB) hB.size hl264 (fun A260 c261 w262 P60 e263 => ?_)
    have N60_56_ := Apart.app N60_56 e263 O56.lt
    have O56 := O56.app e263 N60_56
    have N60_56 := N60_56_
    have hS40 := hS40.app e263 (fun g h_ => (Or.inl (LB60 g h_)))
    have hB := eapp hB e263 O60
    refine ⟨sameBut_chg hS40, ?_⟩
    refine stBlk O56 (o := 0) (cs' := #[(sv A255 (((([] : List D.Ins) ++ s0.Code)).length) c256), (sv none 0 0), (sv A260 (((([] : List Int) ++ s0.Memory)).length) c261), (iv s0.Waiting), (iv s0.Phase)]) rfl rfl (Nat.le_of_ble_eq_true rfl) rfl (fun w265 O56 e266 => ?_)
    have O4 := (((O4.ext e254).app e258 N61_4).app e263 N60_4).chg e266 N4_56
    have O5 := (((O5.ext e254).app e258 N61_5).app e263 N60_5).chg e266 N5_56
    have O60 := P60.chg e266 N60_56
    have O61 := (P61.app e263 (N60_61).symm).chg e266 N61_56
    have hB := echg hB e266 L56
    exact ⟨_, [], _, _, _, g56_, A255, c256, none, 0, (fun _ => False), A260, c261, rfl, H, hB, O56, L56, O61, OwnW.nil, O60, O4, O5, N4_56, N5_56, nilW_dis⟩
   exact trivial
  exact trivial
 rintro _ w38 ⟨xs25, xs29, xs32, i35, i36, g32_, A26, c27, A30, c31, F28, A33, c34, rfl, H, hB, O32, L32, O33, O34, O35, O4, O5, N4_32, N5_32, N34_35⟩
 have H := hKK544 _ H
 try dsimp only at H ⊢
 obtain ⟨J450, ⟨m541, hJ540⟩, hS451⟩ := H
 refine ⟨fun m_ z_ w_ => ∃ (i442 : Int) (xs444 : List D.Warp) (i447 i448 : Int) (A445 : OA) (c446 : Nat) (F443 : Nat → Prop), z_ = (i442, ()) ∧ J450 m_ (i442, xs444, i447, i448, ()) ∧ Ext w w_ ∧ Blk w_ g32_ 33 #[(sv A26 xs25.length c27), (sv A445 xs444.length c446), (sv A33 xs32.length c34), (iv i447), (iv i448)] ∧ OwnW 52 el91 el3 w_ w.heap.size F443 A445 c446 xs444 ∧ Blk w_ g4_ 33 (bC A0_0 c0_0 A0_1 c0_1 A0_2 c0_2 s0) ∧ Blk w_ g5_ 33 zC ∧ Own el84 w_ w.heap.size A26 c27 xs25 ∧ Own el3 w_ w.heap.size A33 c34 xs32 ∧ Dis (InW A445 F443) (InB A33), ⟨m541, 0, xs29, i35, i36, A30, c31, F28, rfl, hJ540, hB, O32, O34, O4, O5, O33, O35, N34_35⟩, ?_⟩
 rintro m449 _ w453 ⟨i442, xs444, i447, i448, A445, c446, F443, rfl, hJ542, hB, O32, O82, O4, O5, O33, O35, N82_35⟩
 have H := hS451 m449 _ hJ542
 clear hS451 hJ542
 try dsimp only at H ⊢
 refine ⟨_, _, _, (O4.a 1), ?_⟩
 refine brc H (fun h H => ?_) fun h H => ?_
 ·refine ⟨(InB A445), _, _, _, ⟨(notM1 (fun h_ => (O82.dis_blk O32 (by decide) (by decide) (by decide)) (Or.inl h_)) (by first | rfl | (simp only [blk_add]))), (O32.a 1)⟩, _, _, _, ⟨(notM1 (fun h_ => (O82.dis_blk O4 (by decide) (by decide) (by decide)) (Or.inl h_)) (by first | rfl | (simp only [blk_add]))), (O4.a 1)⟩, ?_⟩
  obtain ⟨⟨h0_496, h1_497⟩, H⟩ := H
  obtain ⟨a494, ha495, A501, c502, A503, c504, f498, f499, f500, R505, hle507, R506, hle508⟩ := RowW.at R0_1 h0_496 h1_497
  refine ⟨h0_496, h1_497, a494, ha495, _, ⟨(notM1 (fun h_ => absurd (R0_1.old (ne_ix h0_496 h1_497) _ ⟨_, ha495, rfl⟩) (Nat.not_lt.2 (O82.lowW _ (Or.inl h_)))) (by first | rfl | (simp only [blk_add]))), (Ext.cell hB f498)⟩, _, _, _, ⟨(notM1 (fun h_ => absurd (R0_1.old (ne_ix h0_496 h1_497) _ ⟨_, ha495, rfl⟩) (Nat.not_lt.2 (O82.lowW _ (Or.inl h_)))) (by first | rfl | (simp only [blk_add]))), (Ext.cell hB f499)⟩, _, _, _, ⟨(notM1 (fun h_ => absurd (R0_1.old (ne_ix h0_496 h1_497) _ ⟨_, ha495, rfl⟩) (Nat.not_lt.2 (O82.lowW _ (Or.inl h_)))) (by first | rfl | (simp only [blk_add]))), (Ext.cell hB f500)⟩, ?_⟩
  have O4 := O4.ext (Ext.drew _)
  have O5 := O5.ext (Ext.drew _)
  have O32 := O32.ext (Ext.drew _)
  have O33 := O33.ext (Ext.drew _)
  have O35 := O35.ext (Ext.drew _)
  have O82 := O82.ext (Ext.drew _)
  have hB := ethen hB (Ext.drew _)
  have hS454 := (Chg.refl (InB A445) w453).then (Ext.drew _)
  obtain ⟨hp511, H⟩ := H
  obtain ⟨r509, hr510, H⟩ := callO H
  refine (cllA (spec_l12Copy.con hp511 hr510 (R505.ext hB) hle507 (R506.ext hB) hle508)).mono ?_
  rintro _ w512 ⟨A514, c515, A516, c517, rfl, P90, P91, e513⟩
  have N35_90 := aN O35 P90
  have N82_90 := O82.dis_new P90 (Nat.le_refl _)
  have N35_91 := aN O35 P91
  have N82_91 := O82.dis_new P91 (Nat.le_refl _)
  have O35 := O35.ext e513
  have O82 := O82.ext e513
  have LB90 := (P90.mono hS454.size).low
  have LB91 := (P91.mono hS454.size).low
  have O90 := P90.mono hB.size
  have O91 := P91.mono hB.size
  have hB := ethen hB e513
  have hS454 := hS454.then e513
  refine ⟨r509.Number, trivial, A514, r509.Frames.length, c515, trivial, A516, r509.Regs.length, c517, trivial, rfl, sameBut_chg hS454, ?_⟩
  refine buildOwn (elH 52) ([⟨r509, A514, c515, A516, c517⟩] : List HW) (fun _ => by kernel_rfl) rfl (fun A518 w519 P92 e520 => ?_)
  have Q92 : OwnW 52 el91 el3 _ _ _ _ _ _ := OwnW.one (P92.mono hB.size) (O90.ext e520) (O91.ext e520)
  have N92_35 : Dis (InW A518 (fun g => InB A514 g ∨ InB A516 g)) (InB A33) := fun g h_ hx_ => h_.elim (fun h_ => (Own.apart2_new O35 P92 (Nat.le_refl _)).inb g hx_ h_) (fun h_ => h_.elim (fun h_ => ((N35_90).symm).inb g h_ hx_) (fun h_ => ((N35_91).symm).inb g h_ hx_))
  have N92_82 : Dis (InW A518 (fun g => InB A514 g ∨ InB A516 g)) (InW A445 F443) := fun g h_ hx_ => h_.elim (fun h_ => O82.dis_new P92 (Nat.le_refl _) g hx_ h_) (fun h_ => h_.elim (fun h_ => N82_90 g hx_ h_) (fun h_ => N82_91 g hx_ h_))
  have O4 := (O4.ext e513).ext e520
  have O5 := (O5.ext e513).ext e520
  have O32 := (O32.ext e513).ext e520
  have O33 := (O33.ext e513).ext e520
  have O35 := O35.ext e520
  have O82 := O82.ext e520
  have LB92 : ∀ g, InW A518 (fun g => InB A514 g ∨ InB A516 g) g → _ := fun g h_ => h_.elim ((P92.mono hS454.size).low g) (fun h_ => h_.elim (fun h_ => LB90 g h_) (fun h_ => LB91 g h_))
  have O92 := Q92
  have hB := ethen hB e520
  have hS454 := hS454.then e520
  refine ⟨sameBut_chg hS454, ?_⟩
  obtain ⟨hl530, H⟩ := H
  refine appOwnW slt31 slt31.under O82 O92 (N92_82).symm (by decide) (by decide) hB.size rfl (by first | rfl | omega | (simp; done) | (simp; omega)) hl530 (fun A526 c527 w528 P82 e529 => ?_)
  have O4 := O4.app e529 (fun a_ ha_ hb_ => (O82.dis_blk O4 (by decide) (by decide) (by decide)) (Or.inl ⟨a_, ha_, hb_⟩))
  have O5 := O5.app e529 (fun a_ ha_ hb_ => (O82.dis_blk O5 (by decide) (by decide) (by decide)) (Or.inl ⟨a_, ha_, hb_⟩))
  have O32 := O32.app e529 (fun a_ ha_ hb_ => (O82.dis_blk O32 (by decide) (by decide) (by decide)) (Or.inl ⟨a_, ha_, hb_⟩))
  have O33 := O33.app e529 (fun a_ b_ ha_ hb_ hab_ => (O82.dis_type O33 (by decide) (by decide) (by decide)) _ (Or.inl ⟨b_, hb_, rfl⟩) ⟨a_, ha_, hab_⟩)
  have N82_35_ := dis_app N82_35 N92_35 e529 O35
  have O35 := O35.app e529 (fun a_ b_ ha_ hb_ hab_ => N82_35 _ (Or.inl ⟨b_, hb_, rfl⟩) ⟨a_, ha_, hab_⟩)
  have N82_35 := N82_35_
  have hS454 := hS454.app e529 (fun g h_ => (Or.inr h_))
  have hB := eappW hB e529 O82
  have O82 := P82
  refine ⟨sameBut_chg hS454, ?_⟩
  refine stB O32 1 #[(sv A26 xs25.length c27), (sv A526 (((xs444 ++ ([r509] : List D.Warp))).length) c527), (sv A33 xs32.length c34), (iv i447), (iv i448)] (fun w531 P32 e532 => ?_)
  have O4 := O4.chg e532 N4_32
  have O5 := O5.chg e532 N5_32
  have O33 := O33.chg e532 (O33.apart_type O32 (by decide))
  have O35 := O35.chg e532 (O35.apart_type O32 (by decide))
  have O82 := O82.chg e532 (O82.dis_blk O32 (by decide) (by decide) (by decide))
  have hB := echg hB e532 L32
  have O32 := P32
  obtain ⟨m533, hm534, hJ535⟩ := H
  exact ⟨m533, hm534, _, _, i447, i448, A526, c527, (fun g => F443 g ∨ (fun g => InB A514 g ∨ InB A516 g) g), rfl, hJ535, hB, O32, O82, O4, O5, O33, O35, N82_35⟩
 refine ⟨_, _, _, (O32.a 0), _, _, _, (O32.a 1), _, _, _, (O32.a 2), _, (O32.a 3), _, (O32.a 4), ?_⟩
 refine stB O5 0 #[(sv A26 xs25.length c27), (sv A445 xs444.length c446), (sv A33 xs32.length c34), (iv i447), (iv i448)] (fun w536 P5 e537 => ?_)
 have O33 := O33.chg e537 (O33.apart_type O5 (by decide))
 have O35 := O35.chg e537 (O35.apart_type O5 (by decide))
 have O82 := O82.chg e537 (O82.dis_blk O5 (by decide) (by decide) (by decide))
 have hB := echg hB e537 L5
 have O5 := P5
 refine ⟨_, _, _, (O5.a 0), _, _, _, (O5.a 1), _, _, _, (O5.a 2), _, (O5.a 3), _, (O5.a 4), ?_⟩
 cases hr.trans H.symm
 exact ⟨A26, c27, A445, c446, F443, A33, c34, rfl, O33, O82, O35, N82_35, hB⟩
def impl_Warp_lane.vc (x0_0 : Int) (A0_1 : OA) (n0_1 c0_1 : Nat) (A0_2 : OA) (n0_2 c0_2 : Nat) (x1 : Int) (w : World) (K : VK) : Prop :=
  newK w (.cells #[(iv x0_0), (sv A0_1 n0_1 c0_1), (sv A0_2 n0_2 c0_2)] 52) fun g21 w22 => ldS w22 (((bx g21).add 2).add 0) fun A23 n24 c25 => ((0 : Int) ≤ (wrap .i64 ((wrap .i64 (x1 + 1)) * 4)) ∧ (wrap .i64 ((wrap .i64 (x1 + 1)) * 4)) ≤ ((c25 : Nat) : Int) ∧ ((0 : Int) ≤ (wrap .i64 (x1 * 4)) ∧ (wrap .i64 (x1 * 4)) ≤ ((((wrap .i64 ((wrap .i64 (x1 + 1)) * 4)).toNat) : Nat) : Int) ∧ K (sv (if c25 = ((wrap .i64 (x1 * 4)).toNat) then A23 else A23.map (·.add (((wrap .i64 (x1 * 4)).toNat) * szOf Tryz.prog 3))) (((wrap .i64 ((wrap .i64 (x1 + 1)) * 4)).toNat) - ((wrap .i64 (x1 * 4)).toNat)) (c25 - ((wrap .i64 (x1 * 4)).toNat))) w22))

def impl_Warp_lane.ann : Ann := (.seq .l (.seq .l .l))

theorem impl_Warp_lane.vc_eq (x0_0 : Int) (A0_1 : OA) (n0_1 c0_1 : Nat) (A0_2 : OA) (n0_2 c0_2 : Nat) (x1 : Int) (w : World) (K : Value → World → Prop) : vcF Tryz.prog Tryz.f107 impl_Warp_lane.ann [(.agg #[(iv x0_0), (sv A0_1 n0_1 c0_1), (sv A0_2 n0_2 c0_2)]), (iv x1)] K w = impl_Warp_lane.vc x0_0 A0_1 n0_1 c0_1 A0_2 n0_2 c0_2 x1 w K := by kernel_rfl

theorem impl_Warp_lane.start {x0_0 : Int} {A0_1 : OA} {n0_1 c0_1 : Nat} {A0_2 : OA} {n0_2 c0_2 : Nat} {x1 : Int} {w : World} {K : Value → World → Prop} (h : impl_Warp_lane.vc x0_0 A0_1 n0_1 c0_1 A0_2 n0_2 c0_2 x1 w K) : Cl 107 #[(.agg #[(iv x0_0), (sv A0_1 n0_1 c0_1), (sv A0_2 n0_2 c0_2)]), (iv x1)] w K :=
  vcF_sound mixed (fn := Tryz.f107) (by kernel_rfl) (by kernel_rfl) (an := impl_Warp_lane.ann) (args := [(.agg #[(iv x0_0), (sv A0_1 n0_1 c0_1), (sv A0_2 n0_2 c0_2)]), (iv x1)]) (by rw [impl_Warp_lane.vc_eq]; exact h)
end Go.V
set_option linter.unusedVariables false
set_option linter.unusedSimpArgs false
set_option maxRecDepth 100000
namespace Go.V
open IntKind (wrap)
open Go.Proofs
/-- a lane's registers: a cut of the warp's -/
theorem impl_Warp_lane.con {s0 : D.Warp} {A0_1 : Option Addr} {c0_1 : Nat} {A0_2 : Option Addr} {c0_2 : Nat} {x1 : Int} {w : World} (hp : M.impl_Warp_lane_pre s0 x1) (R0_1 : Row el91 w A0_1 s0.Frames) (hc0_1 : s0.Frames.length ≤ c0_1) (R0_2 : Row el3 w A0_2 s0.Regs) (hc0_2 : s0.Regs.length ≤ c0_2) :
    Cll Tryz.prog 107 #[(.agg #[(.int .i64 s0.Number), (.slice A0_1 s0.Frames.length c0_1), (.slice A0_2 s0.Regs.length c0_2)]), (.int .i64 x1)] w (fun v_ w_ => v_ = (.slice (cutA c0_2 ((IntKind.wrap .i64 (x1 * 4)).toNat) A0_2 1) (List.drop ((IntKind.wrap .i64 (x1 * 4)).toNat) (List.take ((IntKind.wrap .i64 ((IntKind.wrap .i64 (x1 + 1)) * 4)).toNat) s0.Regs)).length (c0_2 - (IntKind.wrap .i64 (x1 * 4)).toNat)) ∧ Ext w w_) := by
  obtain ⟨h32, h0, h7⟩ := hp
  refine impl_Warp_lane.start ?_
  unfold impl_Warp_lane.vc
  refine newBlk fun g w1 L P e => ?_
  have a1 : IntKind.wrap .i64 (x1 * 4) = x1 * 4 := w64 (by omega) (by omega)
  have a2 : IntKind.wrap .i64 ((IntKind.wrap .i64 (x1 + 1)) * 4) = x1 * 4 + 4 := by rw [w64 (x := x1 + 1) (by omega) (by omega), w64 (by omega) (by omega)]; omega
  refine ⟨_, _, _, P.at 2 rfl rfl, ?_⟩
  rw [a1, a2]
  refine ⟨by omega, by omega, by omega, by omega, ?_, e⟩
  have hl : (List.drop (x1 * 4).toNat (List.take (x1 * 4 + 4).toNat s0.Regs)).length = (x1 * 4 + 4).toNat - (x1 * 4).toNat := by simp; omega
  rw [hl]
  have hz : szOf Tryz.prog 3 = 1 := by kernel_rfl
  rw [hz]
  rfl
theorem impl_Warp_lane.cut {x : D.Warp} {l : Int} (h : M.impl_Warp_lane_pre x l) : (IntKind.wrap .i64 (l * 4)).toNat ≤ (List.take ((IntKind.wrap .i64 ((IntKind.wrap .i64 (l + 1)) * 4)).toNat) x.Regs).length := by
  obtain ⟨h1, h2, h3⟩ := h
  rw [w64 (x := l * 4) (by omega) (by omega), w64 (x := l + 1) (by omega) (by omega), w64 (by omega) (by omega), List.length_take]
  omega
def spec_ActiveMask.vc (x0_0 : Int) (A0_1 : OA) (n0_1 c0_1 : Nat) (A0_2 : OA) (n0_2 c0_2 : Nat) (w : World) (K : VK) : Prop :=
  newK w (.cells #[(iv x0_0), (sv A0_1 n0_1 c0_1), (sv A0_2 n0_2 c0_2)] 52) fun g21 w22 => ldS w22 (((bx g21).add 1).add 0) fun A23 n24 c25 => bcase (((n24 : Nat) : Int) == 0) (K (iv 0) w22) (ldS w22 (((bx g21).add 1).add 0) fun A26 n27 c28 => ldS w22 (((bx g21).add 1).add 0) fun A29 n30 c31 => (idx (wrap .i64 (((n30 : Nat) : Int) - 1)) n27 A26 fun a32 => ldI w22 (((a32.add (((wrap .i64 (((n30 : Nat) : Int) - 1)).toNat) * 3)).add 2).add 0) fun n33 => K (iv n33) w22))

def spec_ActiveMask.ann : Ann := (.seq .l (.seq (.seq .l (.two (.seq .l .l) .l)) (.seq .l .l)))

theorem spec_ActiveMask.con {s0 : D.Warp} {A0_1 A0_2 : OA} {c0_1 c0_2 : Nat} {r : Int} {w : World} (hp : M.spec_ActiveMask_pre s0) (hr : r = M.spec_ActiveMask s0) (R0_1 : Row el91 w A0_1 s0.Frames) (hc0_1 : s0.Frames.length ≤ c0_1) (R0_2 : Row el3 w A0_2 s0.Regs) (hc0_2 : s0.Regs.length ≤ c0_2) :
    Cl 100 #[(.agg (wC A0_1 c0_1 A0_2 c0_2 s0))] w (fun v_ w_ => v_ = (iv r) ∧ Ext w w_) := by
 have H := wp.spec_ActiveMask.math s0 hp
 refine begK mixed Tryz.f100 ann (vc s0.Number A0_1 s0.Frames.length c0_1 A0_2 s0.Regs.length c0_2) ?_
 unfold vc
 unfold wp.spec_ActiveMask at H
 refine newBlk (fun g3_ w21 L3 O3 e22 => ?_)
 have hB := ethen (Ext.refl w) e22
 refine ⟨_, _, _, (O3.a 1), ?_⟩
 refine brc H (fun h H => ?_) fun h H => ?_
 ·cases hr.trans H.symm
  exact ⟨rfl, hB⟩
 refine ⟨_, _, _, (O3.a 1), _, _, _, (O3.a 1), ?_⟩
 obtain ⟨⟨h0_26, h1_27⟩, H⟩ := H
 obtain ⟨a24, ha25, hat23⟩ := Row.at (R0_1.ext hB) h0_26 h1_27
 refine ⟨h0_26, h1_27, a24, ha25, _, (hat23 2 _ rfl), ?_⟩
 cases hr.trans H.symm
 exact ⟨rfl, hB⟩
def spec_ZeroMask.vc (x0_0 : Int) (A0_1 : OA) (n0_1 c0_1 : Nat) (A0_2 : OA) (n0_2 c0_2 : Nat) (x1 : Int) (w : World) (K : VK) : Prop :=
  newK w (.cells #[(iv x0_0), (sv A0_1 n0_1 c0_1), (sv A0_2 n0_2 c0_2)] 52) fun g21 w22 => Cl 220 #[(iv x1)] w22 fun v24 w25 => (∃ (b26 : Bool), v24 = (.bool b26) ∧ bcase (!b26) (K (iv 0) w25) (ldS w25 (((bx g21).add 2).add 0) fun A27 n28 c29 => bcase (((n28 : Nat) : Int) != 32) (K (iv 0) w25) (LoopT (σ := Int × Int × Unit) (fun z30 w31 next32 => bcase (decide (z30.2.1 < 8)) (ldI w31 ((bx g21).add 0) fun n33 => ldS w31 ((bx g21).add 1) fun A34 n35 c36 => ldS w31 ((bx g21).add 2) fun A37 n38 c39 => Cl 100 #[(.agg #[(iv n33), (sv A34 n35 c36), (sv A37 n38 c39)])] w31 fun v40 w41 => (∃ (n42 : Int), v40 = (iv n42) ∧ Cl 101 #[(iv n42), (iv z30.2.1)] w41 fun v43 w44 => (∃ (b45 : Bool), v43 = (.bool b45) ∧ bcase b45 (ldS w44 (((bx g21).add 2).add 0) fun A46 n47 c48 => (idx (wrap .i64 ((wrap .i64 (z30.2.1 * 4)) + x1)) n47 A46 fun a49 => ldI w44 ((a49.add (((wrap .i64 ((wrap .i64 (z30.2.1 * 4)) + x1)).toNat) * 1)).add 0) fun n50 => bcase (n50 == 0) (((0 : Int) ≤ z30.2.1 ∧ next32 ((bitOr .i64 z30.1 (wrap .i64 (1 * 2 ^ (min (z30.2.1.toNat) (IntKind.bits .i64))))), (wrap .i64 (z30.2.1 + 1)), ()) w44)) (next32 (z30.1, (wrap .i64 (z30.2.1 + 1)), ()) w44))) (next32 (z30.1, (wrap .i64 (z30.2.1 + 1)), ()) w44)))) (K (iv z30.1) w31)) (0, 0, ()) w25)))

def spec_ZeroMask.ann : Ann := (.seq .l (.seq (.seq .l (.two (.seq .l .l) .l)) (.seq .l (.seq (.seq .l (.one (.loop [(5, .int .i64), (6, .int .i64)] (.seq (.seq .l (.two .l .l)) (.seq (.one (.seq .l (.two .l .l))) .l))))) (.seq .l .l)))))

theorem spec_ZeroMask.con {s0 : D.Warp} {A0_1 A0_2 : OA} {c0_1 c0_2 : Nat} {x1 r : Int} {w : World} (hp : M.spec_ZeroMask_pre s0 x1) (hr : r = M.spec_ZeroMask s0 x1) (R0_1 : Row el91 w A0_1 s0.Frames) (hc0_1 : s0.Frames.length ≤ c0_1) (R0_2 : Row el3 w A0_2 s0.Regs) (hc0_2 : s0.Regs.length ≤ c0_2) :
    Cl 205 #[(.agg (wC A0_1 c0_1 A0_2 c0_2 s0)), (iv x1)] w (fun v_ w_ => v_ = (iv r) ∧ Ext w w_) := by
 have H := wp.spec_ZeroMask.math s0 x1 hp
 refine begK mixed Tryz.f205 ann (vc s0.Number A0_1 s0.Frames.length c0_1 A0_2 s0.Regs.length c0_2 x1) ?_
 unfold vc
 unfold wp.spec_ZeroMask at H
 refine newBlk (fun g3_ w21 L3 O3 e22 => ?_)
 obtain ⟨r23, hr24, H⟩ := callO H
 refine (spec_l04Reg.con hr24 ).mono ?_
 rintro _ w26 ⟨rfl, e27⟩
 have O3 := O3.ext e27
 have hB := ethen (ethen (Ext.refl w) e22) e27
 refine ⟨r23, rfl, ?_⟩
 refine brc H (fun h H => ?_) fun h H => ?_
 ·cases hr.trans H.symm
  exact ⟨rfl, hB⟩
 refine ⟨_, _, _, (O3.a 2), ?_⟩
 refine brc H (fun h H => ?_) fun h H => ?_
 ·cases hr.trans H.symm
  exact ⟨rfl, hB⟩
 obtain ⟨J31, ⟨m65, hJ64⟩, hS32⟩ := H
 refine ⟨fun m_ z_ w_ => ∃ (i28 i29 : Int), z_ = (i28, i29, ()) ∧ J31 m_ (i28, i29, ()) ∧ Ext w w_ ∧ Blk w_ g3_ 52 (wC A0_1 c0_1 A0_2 c0_2 s0), ⟨m65, 0, 0, rfl, hJ64, hB, O3⟩, ?_⟩
 rintro m30 _ w34 ⟨i28, i29, rfl, hJ66, hB, O3⟩
 have H := hS32 m30 _ hJ66
 clear hS32 hJ66
 try dsimp only at H ⊢
 refine brc H (fun h H => ?_) fun h H => ?_
 ·refine ⟨_, (O3.a 0), _, _, _, (O3.a 1), _, _, _, (O3.a 2), ?_⟩
  obtain ⟨hp37, H⟩ := H
  obtain ⟨r35, hr36, H⟩ := callO H
  refine (spec_ActiveMask.con hp37 hr36 (R0_1.ext hB) hc0_1 (R0_2.ext hB) hc0_2).mono ?_
  rintro _ w38 ⟨rfl, e39⟩
  refine ⟨r35, rfl, ?_⟩
  obtain ⟨r40, hr41, H⟩ := callO H
  refine (spec_HasLane.con hr41 ).mono ?_
  rintro _ w43 ⟨rfl, e44⟩
  have O3 := (O3.ext e39).ext e44
  have hB := ethen (ethen hB e39) e44
  refine ⟨r40, rfl, ?_⟩
  refine brc H (fun h H => ?_) fun h H => ?_
  ·refine ⟨_, _, _, (O3.a 2), ?_⟩
   obtain ⟨⟨h0_48, h1_49⟩, H⟩ := H
   obtain ⟨a46, ha47, hat45⟩ := Row.at (R0_2.ext hB) h0_48 h1_49
   refine ⟨h0_48, h1_49, a46, ha47, _, (hat45 0 _ rfl), ?_⟩
   refine brc H (fun h H => ?_) fun h H => ?_
   ·obtain ⟨hc50, H⟩ := H
    refine ⟨hc50, ?_⟩
    obtain ⟨m51, hm52, hJ53⟩ := H
    exact ⟨m51, hm52, _, _, rfl, hJ53, hB, O3⟩
   obtain ⟨m54, hm55, hJ56⟩ := H
   exact ⟨m54, hm55, i28, _, rfl, hJ56, hB, O3⟩
  obtain ⟨m58, hm59, hJ60⟩ := H
  exact ⟨m58, hm59, i28, _, rfl, hJ60, hB, O3⟩
 cases hr.trans H.symm
 exact ⟨rfl, hB⟩
def spec_l13Splits.vc (A0 : OA) (n0 c0 : Nat) (x1_0 : Int) (A1_1 : OA) (n1_1 c1_1 : Nat) (A1_2 : OA) (n1_2 c1_2 : Nat) (w : World) (K : VK) : Prop :=
  newK w (.cells #[(iv x1_0), (sv A1_1 n1_1 c1_1), (sv A1_2 n1_2 c1_2)] 52) fun g21 w22 => ldS w22 (((bx g21).add 1).add 0) fun A23 n24 c25 => ldS w22 (((bx g21).add 1).add 0) fun A26 n27 c28 => (idx (wrap .i64 (((n27 : Nat) : Int) - 1)) n24 A23 fun a29 => ldI w22 ((a29.add (((wrap .i64 (((n27 : Nat) : Int) - 1)).toNat) * 3)).add 0) fun n30 => ldI w22 ((a29.add (((wrap .i64 (((n27 : Nat) : Int) - 1)).toNat) * 3)).add 1) fun n31 => ldI w22 ((a29.add (((wrap .i64 (((n27 : Nat) : Int) - 1)).toNat) * 3)).add 2) fun n32 => newK w22 (.cells #[(iv 0), (iv 0), (iv 0)] 91) fun g33 w34 => stCells (bx g33) [(iv n30), (iv n31), (iv n32)] 0 w34 fun w35 => ldI w35 (((bx g33).add 0).add 0) fun n37 => (idx n37 n0 A0 fun a38 => ldI w35 (((a38.add ((n37.toNat) * 4)).add 0).add 0) fun n39 => bcase (n39 != 10) (K (.bool false) w35.drew) (ldI w35 (((bx g33).add 0).add 0) fun n40 => (idx n40 n0 A0 fun a41 => ldI w35 (((a41.add ((n40.toNat) * 4)).add 2).add 0) fun n42 => ldI w35 (((bx g33).add 0).add 0) fun n43 => bcase (n42 == (wrap .i64 (n43 + 1))) (K (.bool false) w35.drew) ((∃ M44 : Nat → Prop, ∃ (n45 : Int), (¬ M44 ((bx g21)).block ∧ w35.drew.cell? ((bx g21).add 0) = some (iv n45)) ∧ ∃ (A46 : OA) (n47 c48 : Nat), (¬ M44 ((bx g21)).block ∧ w35.drew.cell? ((bx g21).add 1) = some (sv A46 n47 c48)) ∧ ∃ (A49 : OA) (n50 c51 : Nat), (¬ M44 ((bx g21)).block ∧ w35.drew.cell? ((bx g21).add 2) = some (sv A49 n50 c51)) ∧ ∃ (n52 : Int), (¬ M44 (((bx g33).add 0)).block ∧ w35.drew.cell? (((bx g33).add 0).add 0) = some (iv n52)) ∧ (idx n52 n0 A0 fun a53 => ∃ (n54 : Int), (¬ M44 (((a53.add ((n52.toNat) * 4)).add 1)).block ∧ w35.drew.cell? (((a53.add ((n52.toNat) * 4)).add 1).add 0) = some (iv n54)) ∧ Cl 205 #[(.agg #[(iv n45), (sv A46 n47 c48), (sv A49 n50 c51)]), (iv n54)] w35.drew.drew fun v55 w56 => (∃ (n57 : Int), v55 = (iv n57) ∧ SameBut M44 w35.drew w56 ∧ bcase (n57 != 0) (ldI w56 (((bx g33).add 2).add 0) fun n58 => K (.bool (n57 != n58)) w56) (K (.bool false) w56)))))))))

def spec_l13Splits.ann : Ann := (.seq .l (.seq .l (.seq (.seq .l (.two (.seq .l .l) .l)) (.seq .l (.seq .l .l)))))

theorem spec_l13Splits.con {xs0 : List D.Ins} {A0 A1_1 A1_2 : OA} {c0 c1_1 c1_2 : Nat} {s1 : D.Warp} {r : Bool} {w : World} (hp : M.spec_l13Splits_pre xs0 s1) (hr : r = M.spec_l13Splits xs0 s1) (R0 : Row el84 w A0 xs0) (hc0 : xs0.length ≤ c0) (R1_1 : Row el91 w A1_1 s1.Frames) (hc1_1 : s1.Frames.length ≤ c1_1) (R1_2 : Row el3 w A1_2 s1.Regs) (hc1_2 : s1.Regs.length ≤ c1_2) :
    Cl 169 #[(sv A0 xs0.length c0), (.agg (wC A1_1 c1_1 A1_2 c1_2 s1))] w (fun v_ w_ => v_ = (.bool r) ∧ Ext w w_) := by
 have H := wp.spec_l13Splits.math xs0 s1 hp
 refine begK mixed Tryz.f169 ann (vc A0 xs0.length c0 s1.Number A1_1 s1.Frames.length c1_1 A1_2 s1.Regs.length c1_2) ?_
 unfold vc
 unfold wp.spec_l13Splits at H
 refine newBlk (fun g4_ w21 L4 O4 e22 => ?_)
 have hB := ethen (Ext.refl w) e22
 refine ⟨_, _, _, (O4.a 1), _, _, _, (O4.a 1), ?_⟩
 obtain ⟨⟨h0_26, h1_27⟩, H⟩ := H
 obtain ⟨a24, ha25, hat23⟩ := Row.at (R1_1.ext hB) h0_26 h1_27
 refine ⟨h0_26, h1_27, a24, ha25, _, (hat23 0 _ rfl), _, (hat23 1 _ rfl), _, (hat23 2 _ rfl), ?_⟩
 refine newSt #[(iv ((rd s1.Frames (wrap .i64 ((s1.Frames.length : Int) - 1))).Pc)), (iv ((rd s1.Frames (wrap .i64 ((s1.Frames.length : Int) - 1))).Stop)), (iv ((rd s1.Frames (wrap .i64 ((s1.Frames.length : Int) - 1))).Mask))] (fun g5_ w30 L5 O5 e31 => ?_)
 have O4 := O4.ext e31
 have hB := ethen hB e31
 refine ⟨_, (O5.a 0), ?_⟩
 obtain ⟨⟨h0_36, h1_37⟩, H⟩ := H
 obtain ⟨a34, ha35, hat33⟩ := Row.at (R0.ext hB) h0_36 h1_37
 refine ⟨h0_36, h1_37, a34, ha35, _, (hat33 0 _ rfl), ?_⟩
 refine brc H (fun h H => ?_) fun h H => ?_
 ·have hB := ethen hB (Ext.drew _)
  cases hr.trans H.symm
  exact ⟨rfl, hB⟩
 refine ⟨_, (O5.a 0), ?_⟩
 obtain ⟨⟨h0_41, h1_42⟩, H⟩ := H
 obtain ⟨a39, ha40, hat38⟩ := Row.at (R0.ext hB) h0_41 h1_42
 refine ⟨h0_41, h1_42, a39, ha40, _, (hat38 2 _ rfl), _, (O5.a 0), ?_⟩
 have O4 := O4.ext (Ext.drew _)
 have O5 := O5.ext (Ext.drew _)
 have hB := ethen hB (Ext.drew _)
 refine brc H (fun h H => ?_) fun h H => ?_
 ·cases hr.trans H.symm
  exact ⟨rfl, hB⟩
 refine ⟨(fun _ => False), _, noM (O4.a 0), _, _, _, noM (O4.a 1), _, _, _, noM (O4.a 2), _, noM (O5.a 0), ?_⟩
 obtain ⟨⟨h0_47, h1_48⟩, H⟩ := H
 obtain ⟨a45, ha46, hat44⟩ := Row.at (R0.ext hB) h0_47 h1_48
 refine ⟨h0_47, h1_48, a45, ha46, _, ⟨(fun h_ => h_), (hat44 1 _ rfl)⟩, ?_⟩
 have O5 := O5.ext (Ext.drew _)
 have hB := ethen hB (Ext.drew _)
 have hS43 := (Chg.refl (fun _ => False) w30.drew).then (Ext.drew _)
 obtain ⟨hp51, H⟩ := H
 obtain ⟨r49, hr50, H⟩ := callO H
 refine (spec_ZeroMask.con hp51 hr50 (R1_1.ext hB) hc1_1 (R1_2.ext hB) hc1_2).mono ?_
 rintro _ w52 ⟨rfl, e53⟩
 have O5 := O5.ext e53
 have hB := ethen hB e53
 have hS43 := hS43.then e53
 refine ⟨r49, rfl, sameBut_chg hS43, ?_⟩
 refine brc H (fun h H => ?_) fun h H => ?_
 ·refine ⟨_, (O5.a 2), ?_⟩
  cases hr.trans H.symm
  exact ⟨rfl, hB⟩
 cases hr.trans H.symm
 exact ⟨rfl, hB⟩
def spec_l13Local.vc (A0 : OA) (n0 c0 : Nat) (x1_0 : Int) (A1_1 : OA) (n1_1 c1_1 : Nat) (A1_2 : OA) (n1_2 c1_2 : Nat) (w : World) (K : VK) : Prop :=
  newK w (.cells #[(iv x1_0), (sv A1_1 n1_1 c1_1), (sv A1_2 n1_2 c1_2)] 52) fun g21 w22 => ldS w22 (((bx g21).add 1).add 0) fun A24 n25 c26 => bcase (((n25 : Nat) : Int) == 0) (K (.bool false) w22) (ldS w22 (((bx g21).add 1).add 0) fun A27 n28 c29 => ldS w22 (((bx g21).add 1).add 0) fun A30 n31 c32 => (idx (wrap .i64 (((n31 : Nat) : Int) - 1)) n28 A27 fun a33 => ldI w22 (((a33.add (((wrap .i64 (((n31 : Nat) : Int) - 1)).toNat) * 3)).add 0).add 0) fun n34 => (idx n34 n0 A0 fun a35 => ldI w22 ((a35.add ((n34.toNat) * 4)).add 0) fun n36 => ldI w22 ((a35.add ((n34.toNat) * 4)).add 1) fun n37 => ldI w22 ((a35.add ((n34.toNat) * 4)).add 2) fun n38 => ldI w22 ((a35.add ((n34.toNat) * 4)).add 3) fun n39 => Cl 124 #[(.agg #[(iv n36), (iv n37), (iv n38), (iv n39)])] w22 fun v40 w41 => (∃ (b42 : Bool), v40 = (.bool b42) ∧ bcase (!b42) (K (.bool false) w41) (ldI w41 ((bx g21).add 0) fun n43 => ldS w41 ((bx g21).add 1) fun A44 n45 c46 => ldS w41 ((bx g21).add 2) fun A47 n48 c49 => Cl 169 #[(sv A0 n0 c0), (.agg #[(iv n43), (sv A44 n45 c46), (sv A47 n48 c49)])] w41 fun v50 w51 => (∃ (b52 : Bool), v50 = (.bool b52) ∧ bcase (!b52) (K (.bool true) w51) (ldS w51 (((bx g21).add 1).add 0) fun A53 n54 c55 => K (.bool (decide (((n54 : Nat) : Int) ≤ 22))) w51)))))))

def spec_l13Local.ann : Ann := (.seq .l (.seq (.seq .l (.two (.seq .l .l) .l)) (.seq .l .l)))

theorem spec_l13Local.con {xs0 : List D.Ins} {A0 A1_1 A1_2 : OA} {c0 c1_1 c1_2 : Nat} {s1 : D.Warp} {r : Bool} {w : World} (hp : M.spec_l13Local_pre xs0 s1) (hr : r = M.spec_l13Local xs0 s1) (R0 : Row el84 w A0 xs0) (hc0 : xs0.length ≤ c0) (R1_1 : Row el91 w A1_1 s1.Frames) (hc1_1 : s1.Frames.length ≤ c1_1) (R1_2 : Row el3 w A1_2 s1.Regs) (hc1_2 : s1.Regs.length ≤ c1_2) :
    Cl 125 #[(sv A0 xs0.length c0), (.agg (wC A1_1 c1_1 A1_2 c1_2 s1))] w (fun v_ w_ => v_ = (.bool r) ∧ Ext w w_) := by
 have H := wp.spec_l13Local.math xs0 s1 hp
 refine begK mixed Tryz.f125 ann (vc A0 xs0.length c0 s1.Number A1_1 s1.Frames.length c1_1 A1_2 s1.Regs.length c1_2) ?_
 unfold vc
 unfold wp.spec_l13Local at H
 refine newBlk (fun g4_ w21 L4 O4 e22 => ?_)
 have hB := ethen (Ext.refl w) e22
 refine ⟨_, _, _, (O4.a 1), ?_⟩
 refine brc H (fun h H => ?_) fun h H => ?_
 ·cases hr.trans H.symm
  exact ⟨rfl, hB⟩
 refine ⟨_, _, _, (O4.a 1), _, _, _, (O4.a 1), ?_⟩
 obtain ⟨⟨h0_26, h1_27⟩, H⟩ := H
 obtain ⟨a24, ha25, hat23⟩ := Row.at (R1_1.ext hB) h0_26 h1_27
 refine ⟨h0_26, h1_27, a24, ha25, _, (hat23 0 _ rfl), ?_⟩
 obtain ⟨⟨h0_31, h1_32⟩, H⟩ := H
 obtain ⟨a29, ha30, hat28⟩ := Row.at (R0.ext hB) h0_31 h1_32
 refine ⟨h0_31, h1_32, a29, ha30, _, (hat28 0 _ rfl), _, (hat28 1 _ rfl), _, (hat28 2 _ rfl), _, (hat28 3 _ rfl), ?_⟩
 obtain ⟨r33, hr34, H⟩ := callO H
 refine (spec_IsLocal.con hr34 ).mono ?_
 rintro _ w36 ⟨rfl, e37⟩
 have O4 := O4.ext e37
 have hB := ethen hB e37
 refine ⟨r33, rfl, ?_⟩
 refine brc H (fun h H => ?_) fun h H => ?_
 ·cases hr.trans H.symm
  exact ⟨rfl, hB⟩
 refine ⟨_, (O4.a 0), _, _, _, (O4.a 1), _, _, _, (O4.a 2), ?_⟩
 obtain ⟨hp40, H⟩ := H
 obtain ⟨r38, hr39, H⟩ := callO H
 refine (spec_l13Splits.con hp40 hr39 (R0.ext hB) hc0 (R1_1.ext hB) hc1_1 (R1_2.ext hB) hc1_2).mono ?_
 rintro _ w41 ⟨rfl, e42⟩
 have O4 := O4.ext e42
 have hB := ethen hB e42
 refine ⟨r38, rfl, ?_⟩
 refine brc H (fun h H => ?_) fun h H => ?_
 ·cases hr.trans H.symm
  exact ⟨rfl, hB⟩
 refine ⟨_, _, _, (O4.a 1), ?_⟩
 cases hr.trans H.symm
 exact ⟨rfl, hB⟩
def spec_l30Can.vc (A0_0 : OA) (n0_0 c0_0 : Nat) (A0_1 : OA) (n0_1 c0_1 : Nat) (A0_2 : OA) (n0_2 c0_2 : Nat) (x0_3 x0_4 x1 : Int) (w : World) (K : VK) : Prop :=
  newK w (.cells (vB A0_0 n0_0 c0_0 A0_1 n0_1 c0_1 A0_2 n0_2 c0_2 x0_3 x0_4) 33) fun g21 w22 => ldS w22 (((bx g21).add 1).add 0) fun A23 n24 c25 => (idx x1 n24 A23 fun a26 => ldI w22 ((a26.add ((x1.toNat) * 3)).add 0) fun n27 => ldS w22 ((a26.add ((x1.toNat) * 3)).add 1) fun A28 n29 c30 => ldS w22 ((a26.add ((x1.toNat) * 3)).add 2) fun A31 n32 c33 => newK w22 (.cells #[(iv 0), (sv none 0 0), (sv none 0 0)] 52) fun g34 w35 => stCells (bx g34) [(iv n27), (sv A28 n29 c30), (sv A31 n32 c33)] 0 w35 fun w36 => ldS w36 (((bx g34).add 1).add 0) fun A38 n39 c40 => bcase (((n39 : Nat) : Int) == 0) (K (.bool false) w36) (ldI w36 (((bx g21).add 3).add 0) fun n41 => ((0 : Int) ≤ x1 ∧ bcase ((bitAnd .i64 (Int.fdiv n41 (2 ^ (min (x1.toNat) (IntKind.bits .i64)))) 1) == 1) (K (.bool false) w36) (ldB w36 (bx g21) fun A42 n43 c44 A45 n46 c47 A48 n49 c50 n51 n52 => Cl 98 #[(.agg (vB A42 n43 c44 A45 n46 c47 A48 n49 c50 n51 n52)), (iv x1)] w36 fun v53 w54 => (∃ (n55 : Int), True ∧ ∃ (n56 : Int), True ∧ ∃ (n57 : Int), True ∧ ∃ (n58 : Int), True ∧ v53 = (.agg #[(iv n55), (iv n56), (iv n57), (iv n58)]) ∧ newK w54 (.cells #[(iv 0), (iv 0), (iv 0), (iv 0)] 84) fun g59 w60 => stCells (bx g59) [(iv n55), (iv n56), (iv n57), (iv n58)] 0 w60 fun w61 => ldI w61 ((bx g59).add 0) fun n62 => ldI w61 ((bx g59).add 1) fun n63 => ldI w61 ((bx g59).add 2) fun n64 => ldI w61 ((bx g59).add 3) fun n65 => Cl 124 #[(.agg #[(iv n62), (iv n63), (iv n64), (iv n65)])] w61 fun v66 w67 => (∃ (b68 : Bool), v66 = (.bool b68) ∧ bcase b68 (ldS w67 (((bx g21).add 0).add 0) fun A69 n70 c71 => ldI w67 ((bx g34).add 0) fun n72 => ldS w67 ((bx g34).add 1) fun A73 n74 c75 => ldS w67 ((bx g34).add 2) fun A76 n77 c78 => Cl 125 #[(sv A69 n70 c71), (.agg #[(iv n72), (sv A73 n74 c75), (sv A76 n77 c78)])] w67 fun v79 w80 => (∃ (b81 : Bool), v79 = (.bool b81) ∧ K (.bool b81) w80)) (ldI w67 (((bx g59).add 0).add 0) fun n82 => bcase (n82 != 16) (K (.bool true) w67) (ldS w67 (((bx g34).add 1).add 0) fun A83 n84 c85 => K (.bool (((n84 : Nat) : Int) == 1)) w67))))))))

def spec_l30Can.ann : Ann := (.seq .l (.seq .l (.seq (.seq .l (.two (.seq .l .l) .l)) (.seq .l (.seq (.seq .l (.two (.seq .l .l) .l)) (.seq .l .l))))))

theorem spec_l30Can.con {s0 : D.Block} {A0_0 A0_1 A0_2 : OA} {c0_0 c0_1 c0_2 : Nat} {x1 : Int} {r : Bool} {w : World} (hp : M.spec_l30Can_pre s0 x1) (hr : r = M.spec_l30Can s0 x1) (R0_0 : Row el84 w A0_0 s0.Code) (hc0_0 : s0.Code.length ≤ c0_0) (R0_1 : RowW 52 el91 el3 w A0_1 s0.Warps) (hc0_1 : s0.Warps.length ≤ c0_1) (R0_2 : Row el3 w A0_2 s0.Memory) (hc0_2 : s0.Memory.length ≤ c0_2) :
    Cl 64 #[(.agg (bC A0_0 c0_0 A0_1 c0_1 A0_2 c0_2 s0)), (iv x1)] w (fun v_ w_ => v_ = (.bool r) ∧ Ext w w_) := by
 have H := wp.spec_l30Can.math s0 x1 hp
 refine begK mixed Tryz.f64 ann (vc A0_0 s0.Code.length c0_0 A0_1 s0.Warps.length c0_1 A0_2 s0.Memory.length c0_2 s0.Waiting s0.Phase x1) ?_
 unfold vc
 unfold wp.spec_l30Can at H
 refine newBlk (fun g4_ w21 L4 O4 e22 => ?_)
 have hB := ethen (Ext.refl w) e22
 refine ⟨_, _, _, (O4.a 1), ?_⟩
 obtain ⟨⟨h0_26, h1_27⟩, H⟩ := H
 obtain ⟨a24, ha25, A31, c32, A33, c34, f28, f29, f30, R35, hle37, R36, hle38⟩ := RowW.at R0_1 h0_26 h1_27
 refine ⟨h0_26, h1_27, a24, ha25, _, (Ext.cell hB f28), _, _, _, (Ext.cell hB f29), _, _, _, (Ext.cell hB f30), ?_⟩
 refine newBlk (fun g7_ w39 L7 P7 e40 => ?_)
 have N4_7 := O4.ne L7
 have O4 := O4.ext e40
 have O7 := P7
 have L7 := Nat.le_trans hB.size L7
 have hB := ethen hB e40
 refine stBlk O7 (o := 0) (cs' := #[(iv ((rd s0.Warps x1).Number)), (sv A31 ((rd s0.Warps x1).Frames.length) c32), (sv A33 ((rd s0.Warps x1).Regs.length) c34)]) rfl rfl (Nat.le_of_ble_eq_true rfl) rfl (fun w41 O7 e42 => ?_)
 have O4_ := O4.chg e42 N4_7
 have O4 := O4_
 have hB := echg hB e42 L7
 refine ⟨_, _, _, (O7.a 1), ?_⟩
 refine brc H (fun h H => ?_) fun h H => ?_
 ·cases hr.trans H.symm
  exact ⟨rfl, hB⟩
 refine ⟨_, (O4.a 3), ?_⟩
 obtain ⟨hc43, H⟩ := H
 refine ⟨hc43, ?_⟩
 refine brc H (fun h H => ?_) fun h H => ?_
 ·cases hr.trans H.symm
  exact ⟨rfl, hB⟩
 refine ⟨_, _, _, (O4.a 0), _, _, _, (O4.a 1), _, _, _, (O4.a 2), _, (O4.a 3), _, (O4.a 4), ?_⟩
 obtain ⟨hp46, H⟩ := H
 obtain ⟨r44, hr45, H⟩ := callO H
 refine (spec_l30Next.con hp46 hr45 (R0_0.ext hB) hc0_0 (R0_1.ext hB) hc0_1 (R0_2.ext hB) hc0_2).mono ?_
 rintro _ w47 ⟨rfl, e48⟩
 refine ⟨r44.Op, trivial, r44.A, trivial, r44.B, trivial, r44.C, trivial, rfl, ?_⟩
 refine newSt (iC r44) (fun g8_ w51 L8 O8 e52 => ?_)
 refine ⟨_, (O8.a 0), _, (O8.a 1), _, (O8.a 2), _, (O8.a 3), ?_⟩
 obtain ⟨r53, hr54, H⟩ := callO H
 refine (spec_IsLocal.con hr54 ).mono ?_
 rintro _ w56 ⟨rfl, e57⟩
 have O4 := ((O4.ext e48).ext e52).ext e57
 have O7 := ((O7.ext e48).ext e52).ext e57
 have O8 := O8.ext e57
 have hB := ethen (ethen (ethen hB e48) e52) e57
 refine ⟨r53, rfl, ?_⟩
 refine brc H (fun h H => ?_) fun h H => ?_
 ·refine ⟨_, _, _, (O4.a 0), _, (O7.a 0), _, _, _, (O7.a 1), _, _, _, (O7.a 2), ?_⟩
  obtain ⟨hp60, H⟩ := H
  obtain ⟨r58, hr59, H⟩ := callO H
  refine (cllA (spec_l13Local.con hp60 hr59 (R0_0.ext hB) hc0_0 (R35.ext hB) hle37 (R36.ext hB) hle38)).mono ?_
  rintro _ w61 ⟨rfl, e62⟩
  have hB := ethen hB e62
  refine ⟨r58, rfl, ?_⟩
  cases hr.trans H.symm
  exact ⟨rfl, hB⟩
 refine ⟨_, (O8.a 0), ?_⟩
 refine brc H (fun h H => ?_) fun h H => ?_
 ·cases hr.trans H.symm
  exact ⟨rfl, hB⟩
 refine ⟨_, _, _, (O7.a 1), ?_⟩
 cases hr.trans H.symm
 exact ⟨rfl, hB⟩
def spec_CanStep.vc (A0_0 : OA) (n0_0 c0_0 : Nat) (A0_1 : OA) (n0_1 c0_1 : Nat) (A0_2 : OA) (n0_2 c0_2 : Nat) (x0_3 x0_4 x1 : Int) (w : World) (K : VK) : Prop :=
  newK w (.cells (vB A0_0 n0_0 c0_0 A0_1 n0_1 c0_1 A0_2 n0_2 c0_2 x0_3 x0_4) 33) fun g21 w22 => ldB w22 (bx g21) fun A23 n24 c25 A26 n27 c28 A29 n30 c31 n32 n33 => Cl 63 #[(.agg (vB A23 n24 c25 A26 n27 c28 A29 n30 c31 n32 n33)), (iv x1)] w22 fun v34 w35 => (∃ (b36 : Bool), v34 = (.bool b36) ∧ bcase b36 (ldB w35 (bx g21) fun A37 n38 c39 A40 n41 c42 A43 n44 c45 n46 n47 => Cl 64 #[(.agg (vB A37 n38 c39 A40 n41 c42 A43 n44 c45 n46 n47)), (iv x1)] w35 fun v48 w49 => (∃ (b50 : Bool), v48 = (.bool b50) ∧ K (.bool b50) w49)) (K (.bool false) w35))

def spec_CanStep.ann : Ann := (.seq .l (.seq .l .l))

theorem spec_CanStep.con {s0 : D.Block} {A0_0 A0_1 A0_2 : OA} {c0_0 c0_1 c0_2 : Nat} {x1 : Int} {r : Bool} {w : World} (hp : M.spec_CanStep_pre s0 x1) (hr : r = M.spec_CanStep s0 x1) (R0_0 : Row el84 w A0_0 s0.Code) (hc0_0 : s0.Code.length ≤ c0_0) (R0_1 : RowW 52 el91 el3 w A0_1 s0.Warps) (hc0_1 : s0.Warps.length ≤ c0_1) (R0_2 : Row el3 w A0_2 s0.Memory) (hc0_2 : s0.Memory.length ≤ c0_2) :
    Cl 22 #[(.agg (bC A0_0 c0_0 A0_1 c0_1 A0_2 c0_2 s0)), (iv x1)] w (fun v_ w_ => v_ = (.bool r) ∧ Ext w w_) := by
 have H := wp.spec_CanStep.math s0 x1 hp
 refine begK mixed Tryz.f22 ann (vc A0_0 s0.Code.length c0_0 A0_1 s0.Warps.length c0_1 A0_2 s0.Memory.length c0_2 s0.Waiting s0.Phase x1) ?_
 unfold vc
 unfold wp.spec_CanStep at H
 refine newBlk (fun g4_ w21 L4 O4 e22 => ?_)
 have hB := ethen (Ext.refl w) e22
 refine ⟨_, _, _, (O4.a 0), _, _, _, (O4.a 1), _, _, _, (O4.a 2), _, (O4.a 3), _, (O4.a 4), ?_⟩
 obtain ⟨hp25, H⟩ := H
 obtain ⟨r23, hr24, H⟩ := callO H
 refine (spec_l30Ok.con hp25 hr24 (R0_0.ext hB) hc0_0 (R0_1.ext hB) hc0_1 (R0_2.ext hB) hc0_2).mono ?_
 rintro _ w26 ⟨rfl, e27⟩
 have O4 := O4.ext e27
 have hB := ethen hB e27
 refine ⟨r23, rfl, ?_⟩
 refine brc H (fun h H => ?_) fun h H => ?_
 ·refine ⟨_, _, _, (O4.a 0), _, _, _, (O4.a 1), _, _, _, (O4.a 2), _, (O4.a 3), _, (O4.a 4), ?_⟩
  obtain ⟨hp30, H⟩ := H
  obtain ⟨r28, hr29, H⟩ := callO H
  refine (spec_l30Can.con hp30 hr29 (R0_0.ext hB) hc0_0 (R0_1.ext hB) hc0_1 (R0_2.ext hB) hc0_2).mono ?_
  rintro _ w31 ⟨rfl, e32⟩
  have hB := ethen hB e32
  refine ⟨r28, rfl, ?_⟩
  cases hr.trans H.symm
  exact ⟨rfl, hB⟩
 cases hr.trans H.symm
 exact ⟨rfl, hB⟩
def impl_ActiveMask.vc (x0_0 : Int) (A0_1 : OA) (n0_1 c0_1 : Nat) (A0_2 : OA) (n0_2 c0_2 : Nat) (w : World) (K : VK) : Prop :=
  newK w (.cells #[(iv x0_0), (sv A0_1 n0_1 c0_1), (sv A0_2 n0_2 c0_2)] 52) fun g21 w22 => ldS w22 (((bx g21).add 1).add 0) fun A23 n24 c25 => bcase (((n24 : Nat) : Int) == 0) (K (iv 0) w22) (ldS w22 (((bx g21).add 1).add 0) fun A26 n27 c28 => ldS w22 (((bx g21).add 1).add 0) fun A29 n30 c31 => (idx (wrap .i64 (((n30 : Nat) : Int) - 1)) n27 A26 fun a32 => ldI w22 (((a32.add (((wrap .i64 (((n30 : Nat) : Int) - 1)).toNat) * 3)).add 2).add 0) fun n33 => K (iv n33) w22))

def impl_ActiveMask.ann : Ann := (.seq .l (.seq (.seq .l (.two (.seq .l .l) .l)) (.seq .l .l)))

theorem impl_ActiveMask.con {s0 : D.Warp} {A0_1 A0_2 : OA} {c0_1 c0_2 : Nat} {r : Int} {w : World} (hp : M.impl_ActiveMask_pre s0) (hr : r = M.impl_ActiveMask s0) (R0_1 : Row el91 w A0_1 s0.Frames) (hc0_1 : s0.Frames.length ≤ c0_1) (R0_2 : Row el3 w A0_2 s0.Regs) (hc0_2 : s0.Regs.length ≤ c0_2) :
    Cl 106 #[(.agg (wC A0_1 c0_1 A0_2 c0_2 s0))] w (fun v_ w_ => v_ = (iv r) ∧ Ext w w_) := by
 have H := wp.impl_ActiveMask.math s0 hp
 refine begK mixed Tryz.f106 ann (vc s0.Number A0_1 s0.Frames.length c0_1 A0_2 s0.Regs.length c0_2) ?_
 unfold vc
 unfold wp.impl_ActiveMask at H
 refine newBlk (fun g3_ w21 L3 O3 e22 => ?_)
 have hB := ethen (Ext.refl w) e22
 refine ⟨_, _, _, (O3.a 1), ?_⟩
 refine brc H (fun h H => ?_) fun h H => ?_
 ·cases hr.trans H.symm
  exact ⟨rfl, hB⟩
 refine ⟨_, _, _, (O3.a 1), _, _, _, (O3.a 1), ?_⟩
 obtain ⟨⟨h0_26, h1_27⟩, H⟩ := H
 obtain ⟨a24, ha25, hat23⟩ := Row.at (R0_1.ext hB) h0_26 h1_27
 refine ⟨h0_26, h1_27, a24, ha25, _, (hat23 2 _ rfl), ?_⟩
 cases hr.trans H.symm
 exact ⟨rfl, hB⟩
def impl_Warp_zeroMask.vc (x0_0 : Int) (A0_1 : OA) (n0_1 c0_1 : Nat) (A0_2 : OA) (n0_2 c0_2 : Nat) (x1 : Int) (w : World) (K : VK) : Prop :=
  newK w (.cells #[(iv x0_0), (sv A0_1 n0_1 c0_1), (sv A0_2 n0_2 c0_2)] 52) fun g21 w22 => ldI w22 ((bx g21).add 0) fun n23 => ldS w22 ((bx g21).add 1) fun A24 n25 c26 => ldS w22 ((bx g21).add 2) fun A27 n28 c29 => Cl 106 #[(.agg #[(iv n23), (sv A24 n25 c26), (sv A27 n28 c29)])] w22 fun v30 w31 => (∃ (n32 : Int), v30 = (iv n32) ∧ Cl 105 #[(iv n32)] w31 fun v33 w34 => (∃ (A35 : OA) (n36 c37 : Nat), v33 = (sv A35 n36 c37) ∧ LoopT (σ := Int × Int × Unit) (fun z38 w39 next40 => bcase (decide (z38.2.1 < ((n36 : Nat) : Int))) ((idx z38.2.1 n36 A35 fun a41 => ldI w39 ((a41.add ((z38.2.1.toNat) * 1)).add 0) fun n42 => ldI w39 ((bx g21).add 0) fun n43 => ldS w39 ((bx g21).add 1) fun A44 n45 c46 => ldS w39 ((bx g21).add 2) fun A47 n48 c49 => Cl 107 #[(.agg #[(iv n43), (sv A44 n45 c46), (sv A47 n48 c49)]), (iv n42)] w39 fun v50 w51 => (∃ (A52 : OA) (n53 c54 : Nat), v50 = (sv A52 n53 c54) ∧ (idx x1 n53 A52 fun a55 => ldI w51 ((a55.add ((x1.toNat) * 1)).add 0) fun n56 => bcase (n56 == 0) (((0 : Int) ≤ n42 ∧ next40 ((bitOr .i64 z38.1 (wrap .i64 (1 * 2 ^ (min (n42.toNat) (IntKind.bits .i64))))), (wrap .i64 (z38.2.1 + 1)), ()) w51)) (next40 (z38.1, (wrap .i64 (z38.2.1 + 1)), ()) w51))))) (K (iv z38.1) w39)) (0, 0, ()) w34))

def impl_Warp_zeroMask.ann : Ann := (.seq .l (.seq .l (.seq (.seq .l (.one (.loop [(5, .int .i64), (12, .int .i64)] (.seq .l (.seq (.two .l .l) (.seq (.one (.seq .l (.seq .l (.two .l .l)))) .l)))))) (.seq .l .l))))

theorem impl_Warp_zeroMask.con {s0 : D.Warp} {A0_1 A0_2 : OA} {c0_1 c0_2 : Nat} {x1 r : Int} {w : World} (hp : M.impl_Warp_zeroMask_pre s0 x1) (hr : r = M.impl_Warp_zeroMask s0 x1) (R0_1 : Row el91 w A0_1 s0.Frames) (hc0_1 : s0.Frames.length ≤ c0_1) (R0_2 : Row el3 w A0_2 s0.Regs) (hc0_2 : s0.Regs.length ≤ c0_2) :
    Cl 166 #[(.agg (wC A0_1 c0_1 A0_2 c0_2 s0)), (iv x1)] w (fun v_ w_ => v_ = (iv r) ∧ Ext w w_) := by
 have H := wp.impl_Warp_zeroMask.math s0 x1 hp
 refine begK mixed Tryz.f166 ann (vc s0.Number A0_1 s0.Frames.length c0_1 A0_2 s0.Regs.length c0_2 x1) ?_
 unfold vc
 unfold wp.impl_Warp_zeroMask at H
 refine newBlk (fun g3_ w21 L3 O3 e22 => ?_)
 have hB := ethen (Ext.refl w) e22
 refine ⟨_, (O3.a 0), _, _, _, (O3.a 1), _, _, _, (O3.a 2), ?_⟩
 obtain ⟨hp25, H⟩ := H
 obtain ⟨r23, hr24, H⟩ := callO H
 refine (impl_ActiveMask.con hp25 hr24 (R0_1.ext hB) hc0_1 (R0_2.ext hB) hc0_2).mono ?_
 rintro _ w26 ⟨rfl, e27⟩
 have hB := ethen hB e27
 refine ⟨r23, rfl, ?_⟩
 obtain ⟨r28, hr29, H⟩ := callO H
 refine (impl_LanesOf.con hr29 ).mono ?_
 rintro _ w31 ⟨A33, c34, rfl, P4, e32⟩
 have O3 := (O3.ext e27).ext e32
 have O4 := P4.mono hB.size
 have hB := ethen hB e32
 refine ⟨A33, r28.length, c34, rfl, ?_⟩
 obtain ⟨J38, ⟨m66, hJ65⟩, hS39⟩ := H
 refine ⟨fun m_ z_ w_ => ∃ (i35 i36 : Int), z_ = (i35, i36, ()) ∧ J38 m_ (i35, i36, ()) ∧ Ext w w_ ∧ Blk w_ g3_ 52 (wC A0_1 c0_1 A0_2 c0_2 s0) ∧ Own el3 w_ w.heap.size A33 c34 r28, ⟨m66, 0, 0, rfl, hJ65, hB, O3, O4⟩, ?_⟩
 rintro m37 _ w41 ⟨i35, i36, rfl, hJ67, hB, O3, O4⟩
 have H := hS39 m37 _ hJ67
 clear hS39 hJ67
 try dsimp only at H ⊢
 refine brc H (fun h H => ?_) fun h H => ?_
 ·obtain ⟨⟨h0_45, h1_46⟩, H⟩ := H
  obtain ⟨a43, ha44, hat42⟩ := Row.at O4.row h0_45 h1_46
  refine ⟨h0_45, h1_46, a43, ha44, _, (hat42 0 _ rfl), _, (O3.a 0), _, _, _, (O3.a 1), _, _, _, (O3.a 2), ?_⟩
  obtain ⟨hp47, H⟩ := H
  refine (impl_Warp_lane.con hp47 (R0_1.ext hB) hc0_1 (R0_2.ext hB) hc0_2).mono ?_
  rintro _ w48 ⟨rfl, e49⟩
  have O3 := O3.ext e49
  have O4 := O4.ext e49
  have hB := ethen hB e49
  have R5_ := (R0_2.take ((wrap .i64 ((wrap .i64 ((rd r28 i36) + 1)) * 4)).toNat)).drop (l := ((wrap .i64 ((rd r28 i36) * 4)).toNat)) (m := c0_2) (by have := hc0_2; simp; omega)
  have le5_ : (List.drop ((wrap .i64 ((rd r28 i36) * 4)).toNat) (List.take ((wrap .i64 ((wrap .i64 ((rd r28 i36) + 1)) * 4)).toNat) s0.Regs)).length ≤ (c0_2 - ((wrap .i64 ((rd r28 i36) * 4)).toNat)) := by have := hc0_2; simp; omega
  refine ⟨(cutA c0_2 ((wrap .i64 ((rd r28 i36) * 4)).toNat) A0_2 1), (List.drop ((wrap .i64 ((rd r28 i36) * 4)).toNat) (List.take ((wrap .i64 ((wrap .i64 ((rd r28 i36) + 1)) * 4)).toNat) s0.Regs)).length, (c0_2 - ((wrap .i64 ((rd r28 i36) * 4)).toNat)), rfl, ?_⟩
  obtain ⟨⟨h0_53, h1_54⟩, H⟩ := H
  obtain ⟨a51, ha52, hat50⟩ := Row.at (R5_.ext hB) h0_53 h1_54
  refine ⟨h0_53, h1_54, a51, ha52, _, (hat50 0 _ rfl), ?_⟩
  refine brc H (fun h H => ?_) fun h H => ?_
  ·obtain ⟨hc55, H⟩ := H
   refine ⟨hc55, ?_⟩
   obtain ⟨m56, hm57, hJ58⟩ := H
   exact ⟨m56, hm57, _, _, rfl, hJ58, hB, O3, O4⟩
  obtain ⟨m59, hm60, hJ61⟩ := H
  exact ⟨m59, hm60, i35, _, rfl, hJ61, hB, O3, O4⟩
 cases hr.trans H.symm
 exact ⟨rfl, hB⟩
def impl_Warp_splits.vc (x0_0 : Int) (A0_1 : OA) (n0_1 c0_1 : Nat) (A0_2 : OA) (n0_2 c0_2 : Nat) (A1 : OA) (n1 c1 : Nat) (w : World) (K : VK) : Prop :=
  newK w (.cells #[(iv x0_0), (sv A0_1 n0_1 c0_1), (sv A0_2 n0_2 c0_2)] 52) fun g21 w22 => ldS w22 (((bx g21).add 1).add 0) fun A23 n24 c25 => ldS w22 (((bx g21).add 1).add 0) fun A26 n27 c28 => (idx (wrap .i64 (((n27 : Nat) : Int) - 1)) n24 A23 fun a29 => ldI w22 (((a29.add (((wrap .i64 (((n27 : Nat) : Int) - 1)).toNat) * 3)).add 0).add 0) fun n30 => (idx n30 n1 A1 fun a32 => ldI w22 (((a32.add ((n30.toNat) * 4)).add 0).add 0) fun n33 => bcase (n33 != 10) (K (.bool false) w22) ((idx n30 n1 A1 fun a34 => ldI w22 (((a34.add ((n30.toNat) * 4)).add 2).add 0) fun n35 => bcase (n35 == (wrap .i64 (n30 + 1))) (K (.bool false) w22) ((∃ M36 : Nat → Prop, ldIM M36 w22 (bx g21) 0 fun n37 => ldSM M36 w22 (bx g21) 1 fun A38 n39 c40 => ldSM M36 w22 (bx g21) 2 fun A41 n42 c43 => (idx n30 n1 A1 fun a44 => ldIM M36 w22 ((a44.add ((n30.toNat) * 4)).add 1) 0 fun n45 => Cl 166 #[(.agg #[(iv n37), (sv A38 n39 c40), (sv A41 n42 c43)]), (iv n45)] w22.drew fun v46 w47 => (∃ (n48 : Int), v46 = (iv n48) ∧ SameBut M36 w22 w47 ∧ bcase (n48 != 0) (ldI w47 ((bx g21).add 0) fun n49 => ldS w47 ((bx g21).add 1) fun A50 n51 c52 => ldS w47 ((bx g21).add 2) fun A53 n54 c55 => Cl 106 #[(.agg #[(iv n49), (sv A50 n51 c52), (sv A53 n54 c55)])] w47 fun v56 w57 => (∃ (n58 : Int), v56 = (iv n58) ∧ K (.bool (n48 != n58)) w57)) (K (.bool false) w47)))))))))

def impl_Warp_splits.ann : Ann := (.seq .l (.seq .l (.seq (.seq .l (.two (.seq .l .l) .l)) (.seq .l (.seq .l .l)))))

theorem impl_Warp_splits.con {s0 : D.Warp} {A0_1 A0_2 A1 : OA} {c0_1 c0_2 c1 : Nat} {xs1 : List D.Ins} {r : Bool} {w : World} (hp : M.impl_Warp_splits_pre s0 xs1) (hr : r = M.impl_Warp_splits s0 xs1) (R0_1 : Row el91 w A0_1 s0.Frames) (hc0_1 : s0.Frames.length ≤ c0_1) (R0_2 : Row el3 w A0_2 s0.Regs) (hc0_2 : s0.Regs.length ≤ c0_2) (R1 : Row el84 w A1 xs1) (hc1 : xs1.length ≤ c1) :
    Cl 122 #[(.agg (wC A0_1 c0_1 A0_2 c0_2 s0)), (sv A1 xs1.length c1)] w (fun v_ w_ => v_ = (.bool r) ∧ Ext w w_) := by
 have H := wp.impl_Warp_splits.math s0 xs1 hp
 refine begK mixed Tryz.f122 ann (vc s0.Number A0_1 s0.Frames.length c0_1 A0_2 s0.Regs.length c0_2 A1 xs1.length c1) ?_
 unfold vc
 unfold wp.impl_Warp_splits at H
 refine newBlk (fun g4_ w21 L4 O4 e22 => ?_)
 have hB := ethen (Ext.refl w) e22
 refine ⟨_, _, _, (O4.a 1), _, _, _, (O4.a 1), ?_⟩
 obtain ⟨⟨h0_26, h1_27⟩, H⟩ := H
 obtain ⟨a24, ha25, hat23⟩ := Row.at (R0_1.ext hB) h0_26 h1_27
 refine ⟨h0_26, h1_27, a24, ha25, _, (hat23 0 _ rfl), ?_⟩
 obtain ⟨⟨h0_31, h1_32⟩, H⟩ := H
 obtain ⟨a29, ha30, hat28⟩ := Row.at (R1.ext hB) h0_31 h1_32
 refine ⟨h0_31, h1_32, a29, ha30, _, (hat28 0 _ rfl), ?_⟩
 refine brc H (fun h H => ?_) fun h H => ?_
 ·cases hr.trans H.symm
  exact ⟨rfl, hB⟩
 obtain ⟨⟨h0_36, h1_37⟩, H⟩ := H
 obtain ⟨a34, ha35, hat33⟩ := Row.at (R1.ext hB) h0_36 h1_37
 refine ⟨h0_36, h1_37, a34, ha35, _, (hat33 2 _ rfl), ?_⟩
 refine brc H (fun h H => ?_) fun h H => ?_
 ·cases hr.trans H.symm
  exact ⟨rfl, hB⟩
 refine ⟨(fun _ => False), _, noM (O4.a 0), _, _, _, noM (O4.a 1), _, _, _, noM (O4.a 2), ?_⟩
 obtain ⟨⟨h0_42, h1_43⟩, H⟩ := H
 obtain ⟨a40, ha41, hat39⟩ := Row.at (R1.ext hB) h0_42 h1_43
 refine ⟨h0_42, h1_43, a40, ha41, _, ⟨(fun h_ => h_), (hat39 1 _ rfl)⟩, ?_⟩
 have O4 := O4.ext (Ext.drew _)
 have hB := ethen hB (Ext.drew _)
 have hS38 := (Chg.refl (fun _ => False) w21).then (Ext.drew _)
 obtain ⟨hp46, H⟩ := H
 obtain ⟨r44, hr45, H⟩ := callO H
 refine (impl_Warp_zeroMask.con hp46 hr45 (R0_1.ext hB) hc0_1 (R0_2.ext hB) hc0_2).mono ?_
 rintro _ w47 ⟨rfl, e48⟩
 have O4 := O4.ext e48
 have hB := ethen hB e48
 have hS38 := hS38.then e48
 refine ⟨r44, rfl, sameBut_chg hS38, ?_⟩
 refine brc H (fun h H => ?_) fun h H => ?_
 ·refine ⟨_, (O4.a 0), _, _, _, (O4.a 1), _, _, _, (O4.a 2), ?_⟩
  obtain ⟨hp51, H⟩ := H
  obtain ⟨r49, hr50, H⟩ := callO H
  refine (impl_ActiveMask.con hp51 hr50 (R0_1.ext hB) hc0_1 (R0_2.ext hB) hc0_2).mono ?_
  rintro _ w52 ⟨rfl, e53⟩
  have hB := ethen hB e53
  refine ⟨r49, rfl, ?_⟩
  cases hr.trans H.symm
  exact ⟨rfl, hB⟩
 cases hr.trans H.symm
 exact ⟨rfl, hB⟩
def impl_Block_canStep.vc (A0_0 : OA) (n0_0 c0_0 : Nat) (A0_1 : OA) (n0_1 c0_1 : Nat) (A0_2 : OA) (n0_2 c0_2 : Nat) (x0_3 x0_4 x1 : Int) (w : World) (K : VK) : Prop :=
  newK w (.cells (vB A0_0 n0_0 c0_0 A0_1 n0_1 c0_1 A0_2 n0_2 c0_2 x0_3 x0_4) 33) fun g21 w22 => ldB w22 (bx g21) fun A23 n24 c25 A26 n27 c28 A29 n30 c31 n32 n33 => Cl 68 #[(.agg (vB A23 n24 c25 A26 n27 c28 A29 n30 c31 n32 n33)), (iv x1)] w22 fun v34 w35 => (∃ u36 : Value, (∃ (n37 : Int), True ∧ ∃ (n38 : Int), True ∧ ∃ (n39 : Int), True ∧ ∃ (n40 : Int), True ∧ u36 = (.agg #[(iv n37), (iv n38), (iv n39), (iv n40)]) ∧ ∃ u41 : Value, (∃ (b42 : Bool), u41 = (.bool b42) ∧ v34 = (.tuple #[(.agg #[(iv n37), (iv n38), (iv n39), (iv n40)]), (.bool b42)]) ∧ newK w35 (.cells #[(iv 0), (iv 0), (iv 0), (iv 0)] 84) fun g43 w44 => stCells (bx g43) [(iv n37), (iv n38), (iv n39), (iv n40)] 0 w44 fun w45 => JoinT (σ := Bool × Unit) (fun J46 => bcase (!b42) (J46 (true, ()) w45) (ldB w45 (bx g21) fun A47 n48 c49 A50 n51 c52 A53 n54 c55 n56 n57 => Cl 65 #[(.agg (vB A47 n48 c49 A50 n51 c52 A53 n54 c55 n56 n57)), (iv x1)] w45 fun v58 w59 => (∃ (b60 : Bool), v58 = (.bool b60) ∧ J46 (b60, ()) w59))) fun z61 w62 => bcase z61.1 (K (.bool false) w62) (ldI w62 (((bx g43).add 0).add 0) fun n63 => bcase (n63 == 16) (ldS w62 (((bx g21).add 1).add 0) fun A64 n65 c66 => (idx x1 n65 A64 fun a67 => ldS w62 (((a67.add ((x1.toNat) * 3)).add 1).add 0) fun A68 n69 c70 => K (.bool (((n69 : Nat) : Int) == 1)) w62)) (ldI w62 ((bx g43).add 0) fun n71 => ldI w62 ((bx g43).add 1) fun n72 => ldI w62 ((bx g43).add 2) fun n73 => ldI w62 ((bx g43).add 3) fun n74 => Cl 121 #[(.agg #[(iv n71), (iv n72), (iv n73), (iv n74)])] w62 fun v75 w76 => (∃ (b77 : Bool), v75 = (.bool b77) ∧ bcase b77 ((∃ M78 : Nat → Prop, ldSM M78 w76 ((bx g21).add 1) 0 fun A79 n80 c81 => (idx x1 n80 A79 fun a82 => ldIM M78 w76 (a82.add ((x1.toNat) * 3)) 0 fun n83 => ldSM M78 w76 (a82.add ((x1.toNat) * 3)) 1 fun A84 n85 c86 => ldSM M78 w76 (a82.add ((x1.toNat) * 3)) 2 fun A87 n88 c89 => ldSM M78 w76 ((bx g21).add 0) 0 fun A90 n91 c92 => Cl 122 #[(.agg #[(iv n83), (sv A84 n85 c86), (sv A87 n88 c89)]), (sv A90 n91 c92)] w76.drew fun v93 w94 => (∃ (b95 : Bool), v93 = (.bool b95) ∧ SameBut M78 w76 w94 ∧ bcase (!b95) (K (.bool true) w94) (ldSM M78 w76 ((bx g21).add 1) 0 fun A96 n97 c98 => (idx x1 n97 A96 fun a99 => ldSM M78 w76 ((a99.add ((x1.toNat) * 3)).add 1) 0 fun A100 n101 c102 => K (.bool (decide ((wrap .i64 (((n101 : Nat) : Int) + 2)) ≤ 24))) w94)))))) (K (.bool true) w76)))))))

def impl_Block_canStep.ann : Ann := (.seq .l (.seq .l (.seq (.one (.cut [(13, .bool)] .l (.two (.seq .l .l) (.seq .l (.two (.seq .l .l) (.seq .l (.two (.seq .l .l) .l))))))) (.seq .l .l))))

theorem impl_Block_canStep.con {s0 : D.Block} {A0_0 A0_1 A0_2 : OA} {c0_0 c0_1 c0_2 : Nat} {x1 : Int} {r : Bool} {w : World} (hp : M.impl_Block_canStep_pre s0 x1) (hr : r = M.impl_Block_canStep s0 x1) (R0_0 : Row el84 w A0_0 s0.Code) (hc0_0 : s0.Code.length ≤ c0_0) (R0_1 : RowW 52 el91 el3 w A0_1 s0.Warps) (hc0_1 : s0.Warps.length ≤ c0_1) (R0_2 : Row el3 w A0_2 s0.Memory) (hc0_2 : s0.Memory.length ≤ c0_2) :
    Cl 61 #[(.agg (bC A0_0 c0_0 A0_1 c0_1 A0_2 c0_2 s0)), (iv x1)] w (fun v_ w_ => v_ = (.bool r) ∧ Ext w w_) := by
 have H := wp.impl_Block_canStep.math s0 x1 hp
 refine begK mixed Tryz.f61 ann (vc A0_0 s0.Code.length c0_0 A0_1 s0.Warps.length c0_1 A0_2 s0.Memory.length c0_2 s0.Waiting s0.Phase x1) ?_
 unfold vc
 unfold wp.impl_Block_canStep at H
 refine newBlk (fun g4_ w21 L4 O4 e22 => ?_)
 have hB := ethen (Ext.refl w) e22
 refine ⟨_, _, _, (O4.a 0), _, _, _, (O4.a 1), _, _, _, (O4.a 2), _, (O4.a 3), _, (O4.a 4), ?_⟩
 obtain ⟨hp25, H⟩ := H
 obtain ⟨r23, hr24, H⟩ := callO H
 refine (impl_Block_nextIns.con hp25 hr24 (R0_0.ext hB) hc0_0 (R0_1.ext hB) hc0_1 (R0_2.ext hB) hc0_2).mono ?_
 rintro _ w26 ⟨rfl, e27⟩
 refine ⟨(.agg (iC r23.1)), r23.1.Op, trivial, r23.1.A, trivial, r23.1.B, trivial, r23.1.C, trivial, rfl, (.bool r23.2), r23.2, rfl, rfl, ?_⟩
 refine newSt (iC r23.1) (fun g5_ w30 L5 O5 e31 => ?_)
 have O4 := (O4.ext e27).ext e31
 have hB := ethen (ethen hB e27) e31
 obtain ⟨K127, hKK127, H⟩ := joinP_out H
 refine ⟨fun z_ w_ => ∃ (b32 : Bool), z_ = (b32, ()) ∧ K127 (b32, ()) ∧ Ext w w_ ∧ Blk w_ g4_ 33 (bC A0_0 c0_0 A0_1 c0_1 A0_2 c0_2 s0) ∧ Blk w_ g5_ 84 (iC r23.1), ?_, ?_⟩
 ·refine brc H (fun h H => ?_) fun h H => ?_
  ·exact ⟨true, rfl, H, hB, O4, O5⟩
  refine ⟨_, _, _, (O4.a 0), _, _, _, (O4.a 1), _, _, _, (O4.a 2), _, (O4.a 3), _, (O4.a 4), ?_⟩
  obtain ⟨hp38, H⟩ := H
  obtain ⟨r36, hr37, H⟩ := callO H
  refine (impl_Block_waits.con hp38 hr37 (R0_0.ext hB) hc0_0 (R0_1.ext hB) hc0_1 (R0_2.ext hB) hc0_2).mono ?_
  rintro _ w39 ⟨rfl, e40⟩
  have O4 := O4.ext e40
  have O5 := O5.ext e40
  have hB := ethen hB e40
  refine ⟨r36, rfl, ?_⟩
  exact ⟨r36, rfl, H, hB, O4, O5⟩
 rintro _ w34 ⟨b32, rfl, H, hB, O4, O5⟩
 have H := hKK127 _ H
 try dsimp only at H ⊢
 refine brc H (fun h H => ?_) fun h H => ?_
 ·cases hr.trans H.symm
  exact ⟨rfl, hB⟩
 refine ⟨_, (O5.a 0), ?_⟩
 refine brc H (fun h H => ?_) fun h H => ?_
 ·refine ⟨_, _, _, (O4.a 1), ?_⟩
  obtain ⟨⟨h0_45, h1_46⟩, H⟩ := H
  obtain ⟨a43, ha44, A50, c51, A52, c53, f47, f48, f49, R54, hle56, R55, hle57⟩ := RowW.at R0_1 h0_45 h1_46
  refine ⟨h0_45, h1_46, a43, ha44, _, _, _, (Ext.cell hB f48), ?_⟩
  cases hr.trans H.symm
  exact ⟨rfl, hB⟩
 refine ⟨_, (O5.a 0), _, (O5.a 1), _, (O5.a 2), _, (O5.a 3), ?_⟩
 obtain ⟨r58, hr59, H⟩ := callO H
 refine (impl_IsLocal.con hr59 ).mono ?_
 rintro _ w61 ⟨rfl, e62⟩
 have O4 := O4.ext e62
 have hB := ethen hB e62
 refine ⟨r58, rfl, ?_⟩
 refine brc H (fun h H => ?_) fun h H => ?_
 ·refine ⟨(fun _ => False), ?_⟩
  have hBz := hB
  have Z4 := O4
  refine ⟨_, _, _, noM (O4.a 1), ?_⟩
  obtain ⟨⟨h0_88, h1_89⟩, H⟩ := H
  obtain ⟨a86, ha87, A93, c94, A95, c96, f90, f91, f92, R97, hle99, R98, hle100⟩ := RowW.at R0_1 h0_88 h1_89
  refine ⟨h0_88, h1_89, a86, ha87, _, ⟨(fun h_ => h_), (Ext.cell hB f90)⟩, _, _, _, ⟨(fun h_ => h_), (Ext.cell hB f91)⟩, _, _, _, ⟨(fun h_ => h_), (Ext.cell hB f92)⟩, _, _, _, noM (O4.a 0), ?_⟩
  have hB := ethen hB (Ext.drew _)
  have hS63 := (Chg.refl (fun _ => False) w61).then (Ext.drew _)
  obtain ⟨hp103, H⟩ := H
  obtain ⟨r101, hr102, H⟩ := callO H
  refine (cllA (impl_Warp_splits.con hp103 hr102 (R97.ext hB) hle99 (R98.ext hB) hle100 (R0_0.ext hB) hc0_0)).mono ?_
  rintro _ w104 ⟨rfl, e105⟩
  have hB := ethen hB e105
  have hS63 := hS63.then e105
  refine ⟨r101, rfl, sameBut_chg hS63, ?_⟩
  refine brc H (fun h H => ?_) fun h H => ?_
  ·cases hr.trans H.symm
   exact ⟨rfl, hB⟩
  refine ⟨_, _, _, ⟨(fun h_ => h_), (Z4.at 1 rfl rfl)⟩, ?_⟩
  obtain ⟨⟨h0_109, h1_110⟩, H⟩ := H
  obtain ⟨a107, ha108, A114, c115, A116, c117, f111, f112, f113, R118, hle120, R119, hle121⟩ := RowW.at R0_1 h0_109 h1_110
  refine ⟨h0_109, h1_110, a107, ha108, _, _, _, ⟨(fun h_ => h_), (Ext.cell hBz f112)⟩, ?_⟩
  cases hr.trans H.symm
  exact ⟨rfl, hB⟩
 cases hr.trans H.symm
 exact ⟨rfl, hB⟩
def impl_CanStep.vc (A0_0 : OA) (n0_0 c0_0 : Nat) (A0_1 : OA) (n0_1 c0_1 : Nat) (A0_2 : OA) (n0_2 c0_2 : Nat) (x0_3 x0_4 x1 : Int) (w : World) (K : VK) : Prop :=
  newK w (.cells (vB A0_0 n0_0 c0_0 A0_1 n0_1 c0_1 A0_2 n0_2 c0_2 x0_3 x0_4) 33) fun g21 w22 => ldB w22 (bx g21) fun A23 n24 c25 A26 n27 c28 A29 n30 c31 n32 n33 => Cl 62 #[(.agg (vB A23 n24 c25 A26 n27 c28 A29 n30 c31 n32 n33)), (iv x1)] w22 fun v34 w35 => (∃ (b36 : Bool), v34 = (.bool b36) ∧ bcase b36 (ldB w35 (bx g21) fun A37 n38 c39 A40 n41 c42 A43 n44 c45 n46 n47 => Cl 61 #[(.agg (vB A37 n38 c39 A40 n41 c42 A43 n44 c45 n46 n47)), (iv x1)] w35 fun v48 w49 => (∃ (b50 : Bool), v48 = (.bool b50) ∧ K (.bool b50) w49)) (K (.bool false) w35))

def impl_CanStep.ann : Ann := (.seq .l (.seq .l .l))

theorem impl_CanStep.con {s0 : D.Block} {A0_0 A0_1 A0_2 : OA} {c0_0 c0_1 c0_2 : Nat} {x1 : Int} {r : Bool} {w : World} (hp : M.impl_CanStep_pre s0 x1) (hr : r = M.impl_CanStep s0 x1) (R0_0 : Row el84 w A0_0 s0.Code) (hc0_0 : s0.Code.length ≤ c0_0) (R0_1 : RowW 52 el91 el3 w A0_1 s0.Warps) (hc0_1 : s0.Warps.length ≤ c0_1) (R0_2 : Row el3 w A0_2 s0.Memory) (hc0_2 : s0.Memory.length ≤ c0_2) :
    Cl 21 #[(.agg (bC A0_0 c0_0 A0_1 c0_1 A0_2 c0_2 s0)), (iv x1)] w (fun v_ w_ => v_ = (.bool r) ∧ Ext w w_) := by
 have H := wp.impl_CanStep.math s0 x1 hp
 refine begK mixed Tryz.f21 ann (vc A0_0 s0.Code.length c0_0 A0_1 s0.Warps.length c0_1 A0_2 s0.Memory.length c0_2 s0.Waiting s0.Phase x1) ?_
 unfold vc
 unfold wp.impl_CanStep at H
 refine newBlk (fun g4_ w21 L4 O4 e22 => ?_)
 have hB := ethen (Ext.refl w) e22
 refine ⟨_, _, _, (O4.a 0), _, _, _, (O4.a 1), _, _, _, (O4.a 2), _, (O4.a 3), _, (O4.a 4), ?_⟩
 obtain ⟨hp25, H⟩ := H
 obtain ⟨r23, hr24, H⟩ := callO H
 refine (impl_hasWarp.con hp25 hr24 (R0_0.ext hB) hc0_0 (R0_1.ext hB) hc0_1 (R0_2.ext hB) hc0_2).mono ?_
 rintro _ w26 ⟨rfl, e27⟩
 have O4 := O4.ext e27
 have hB := ethen hB e27
 refine ⟨r23, rfl, ?_⟩
 refine brc H (fun h H => ?_) fun h H => ?_
 ·refine ⟨_, _, _, (O4.a 0), _, _, _, (O4.a 1), _, _, _, (O4.a 2), _, (O4.a 3), _, (O4.a 4), ?_⟩
  obtain ⟨hp30, H⟩ := H
  obtain ⟨r28, hr29, H⟩ := callO H
  refine (impl_Block_canStep.con hp30 hr29 (R0_0.ext hB) hc0_0 (R0_1.ext hB) hc0_1 (R0_2.ext hB) hc0_2).mono ?_
  rintro _ w31 ⟨rfl, e32⟩
  have hB := ethen hB e32
  refine ⟨r28, rfl, ?_⟩
  cases hr.trans H.symm
  exact ⟨rfl, hB⟩
 cases hr.trans H.symm
 exact ⟨rfl, hB⟩
def spec_l32Pick.vc (A0_0 : OA) (n0_0 c0_0 : Nat) (A0_1 : OA) (n0_1 c0_1 : Nat) (A0_2 : OA) (n0_2 c0_2 : Nat) (x0_3 x0_4 x1 : Int) (w : World) (K : VK) : Prop :=
  newK w (.cells (vB A0_0 n0_0 c0_0 A0_1 n0_1 c0_1 A0_2 n0_2 c0_2 x0_3 x0_4) 33) fun g21 w22 => ldS w22 (((bx g21).add 1).add 0) fun A23 n24 c25 => ((((n24 : Nat) : Int) : Int) ≠ 0 ∧ LoopT (σ := Int × Unit) (fun z26 w27 next28 => bcase (decide (z26.1 < ((n24 : Nat) : Int))) (((((n24 : Nat) : Int) : Int) ≠ 0 ∧ ldB w27 (bx g21) fun A29 n30 c31 A32 n33 c34 A35 n36 c37 n38 n39 => Cl 64 #[(.agg (vB A29 n30 c31 A32 n33 c34 A35 n36 c37 n38 n39)), (iv (Int.tmod (wrap .i64 ((Int.tmod x1 ((n24 : Nat) : Int)) + z26.1)) ((n24 : Nat) : Int)))] w27 fun v40 w41 => (∃ (b42 : Bool), v40 = (.bool b42) ∧ bcase b42 (K (iv (Int.tmod (wrap .i64 ((Int.tmod x1 ((n24 : Nat) : Int)) + z26.1)) ((n24 : Nat) : Int))) w41) (next28 ((wrap .i64 (z26.1 + 1)), ()) w41)))) (K (iv (-1)) w27)) (0, ()) w22)

def spec_l32Pick.ann : Ann := (.seq .l (.seq .l (.seq .l (.seq (.seq .l (.one (.loop [(7, .int .i64)] (.seq (.seq .l (.two .l .l)) (.seq (.one (.seq .l (.seq .l (.two (.seq .l .l) .l)))) .l))))) (.seq .l .l)))))

theorem spec_l32Pick.con {s0 : D.Block} {A0_0 A0_1 A0_2 : OA} {c0_0 c0_1 c0_2 : Nat} {x1 r : Int} {w : World} (hp : M.spec_l32Pick_pre s0 x1) (hr : r = M.spec_l32Pick s0 x1) (R0_0 : Row el84 w A0_0 s0.Code) (hc0_0 : s0.Code.length ≤ c0_0) (R0_1 : RowW 52 el91 el3 w A0_1 s0.Warps) (hc0_1 : s0.Warps.length ≤ c0_1) (R0_2 : Row el3 w A0_2 s0.Memory) (hc0_2 : s0.Memory.length ≤ c0_2) :
    Cl 163 #[(.agg (bC A0_0 c0_0 A0_1 c0_1 A0_2 c0_2 s0)), (iv x1)] w (fun v_ w_ => v_ = (iv r) ∧ Ext w w_) := by
 have H := wp.spec_l32Pick.math s0 x1 hp
 refine begK mixed Tryz.f163 ann (vc A0_0 s0.Code.length c0_0 A0_1 s0.Warps.length c0_1 A0_2 s0.Memory.length c0_2 s0.Waiting s0.Phase x1) ?_
 unfold vc
 unfold wp.spec_l32Pick at H
 refine newBlk (fun g4_ w21 L4 O4 e22 => ?_)
 have hB := ethen (Ext.refl w) e22
 refine ⟨_, _, _, (O4.a 1), ?_⟩
 obtain ⟨hc23, H⟩ := H
 refine ⟨hc23, ?_⟩
 obtain ⟨J26, ⟨m43, hJ42⟩, hS27⟩ := H
 refine ⟨fun m_ z_ w_ => ∃ (i24 : Int), z_ = (i24, ()) ∧ J26 m_ (i24, ()) ∧ Ext w w_ ∧ Blk w_ g4_ 33 (bC A0_0 c0_0 A0_1 c0_1 A0_2 c0_2 s0), ⟨m43, 0, rfl, hJ42, hB, O4⟩, ?_⟩
 rintro m25 _ w29 ⟨i24, rfl, hJ44, hB, O4⟩
 have H := hS27 m25 _ hJ44
 clear hS27 hJ44
 try dsimp only at H ⊢
 refine brc H (fun h H => ?_) fun h H => ?_
 ·obtain ⟨hc30, H⟩ := H
  refine ⟨hc30, _, _, _, (O4.a 0), _, _, _, (O4.a 1), _, _, _, (O4.a 2), _, (O4.a 3), _, (O4.a 4), ?_⟩
  obtain ⟨hp33, H⟩ := H
  obtain ⟨r31, hr32, H⟩ := callO H
  refine (spec_l30Can.con hp33 hr32 (R0_0.ext hB) hc0_0 (R0_1.ext hB) hc0_1 (R0_2.ext hB) hc0_2).mono ?_
  rintro _ w34 ⟨rfl, e35⟩
  have O4 := O4.ext e35
  have hB := ethen hB e35
  refine ⟨r31, rfl, ?_⟩
  refine brc H (fun h H => ?_) fun h H => ?_
  ·cases hr.trans H.symm
   exact ⟨rfl, hB⟩
  obtain ⟨m36, hm37, hJ38⟩ := H
  exact ⟨m36, hm37, _, rfl, hJ38, hB, O4⟩
 cases hr.trans H.symm
 exact ⟨rfl, hB⟩
def impl_IsStuck.vc (A0_0 : OA) (n0_0 c0_0 : Nat) (A0_1 : OA) (n0_1 c0_1 : Nat) (A0_2 : OA) (n0_2 c0_2 : Nat) (x0_3 x0_4 : Int) (w : World) (K : VK) : Prop :=
  newK w (.cells (vB A0_0 n0_0 c0_0 A0_1 n0_1 c0_1 A0_2 n0_2 c0_2 x0_3 x0_4) 33) fun g21 w22 => ldB w22 (bx g21) fun A24 n25 c26 A27 n28 c29 A30 n31 c32 n33 n34 => Cl 32 #[(.agg (vB A24 n25 c26 A27 n28 c29 A30 n31 c32 n33 n34))] w22 fun v35 w36 => (∃ (b37 : Bool), v35 = (.bool b37) ∧ bcase (!b37) (K (.bool false) w36) (ldB w36 (bx g21) fun A38 n39 c40 A41 n42 c43 A44 n45 c46 n47 n48 => Cl 60 #[(.agg (vB A38 n39 c40 A41 n42 c43 A44 n45 c46 n47 n48))] w36 fun v49 w50 => (∃ (b51 : Bool), v49 = (.bool b51) ∧ bcase b51 (K (.bool false) w50) (ldS w50 (((bx g21).add 1).add 0) fun A52 n53 c54 => LoopT (σ := Int × Unit) (fun z55 w56 next57 => bcase (decide (z55.1 < ((n53 : Nat) : Int))) (ldB w56 (bx g21) fun A58 n59 c60 A61 n62 c63 A64 n65 c66 n67 n68 => Cl 61 #[(.agg (vB A58 n59 c60 A61 n62 c63 A64 n65 c66 n67 n68)), (iv z55.1)] w56 fun v69 w70 => (∃ (b71 : Bool), v69 = (.bool b71) ∧ bcase b71 (K (.bool false) w70) (next57 ((wrap .i64 (z55.1 + 1)), ()) w70))) (K (.bool true) w56)) (0, ()) w50))))

def impl_IsStuck.ann : Ann := (.seq .l (.seq (.seq .l (.two (.seq .l .l) .l)) (.seq (.seq .l (.one (.loop [(14, .int .i64)] (.seq .l (.seq (.two .l .l) (.seq (.one (.seq .l (.seq .l (.two (.seq .l .l) .l)))) .l)))))) (.seq .l .l))))

theorem impl_IsStuck.con {s0 : D.Block} {A0_0 A0_1 A0_2 : OA} {c0_0 c0_1 c0_2 : Nat} {r : Bool} {w : World} (hp : M.impl_IsStuck_pre s0) (hr : r = M.impl_IsStuck s0) (R0_0 : Row el84 w A0_0 s0.Code) (hc0_0 : s0.Code.length ≤ c0_0) (R0_1 : RowW 52 el91 el3 w A0_1 s0.Warps) (hc0_1 : s0.Warps.length ≤ c0_1) (R0_2 : Row el3 w A0_2 s0.Memory) (hc0_2 : s0.Memory.length ≤ c0_2) :
    Cl 20 #[(.agg (bC A0_0 c0_0 A0_1 c0_1 A0_2 c0_2 s0))] w (fun v_ w_ => v_ = (.bool r) ∧ Ext w w_) := by
 have H := wp.impl_IsStuck.math s0 hp
 refine begK mixed Tryz.f20 ann (vc A0_0 s0.Code.length c0_0 A0_1 s0.Warps.length c0_1 A0_2 s0.Memory.length c0_2 s0.Waiting s0.Phase) ?_
 unfold vc
 unfold wp.impl_IsStuck at H
 refine newBlk (fun g4_ w21 L4 O4 e22 => ?_)
 have hB := ethen (Ext.refl w) e22
 refine ⟨_, _, _, (O4.a 0), _, _, _, (O4.a 1), _, _, _, (O4.a 2), _, (O4.a 3), _, (O4.a 4), ?_⟩
 obtain ⟨hp25, H⟩ := H
 obtain ⟨r23, hr24, H⟩ := callO H
 refine (impl_BlockOk.con hp25 hr24 (R0_0.ext hB) hc0_0 (R0_1.ext hB) hc0_1 (R0_2.ext hB) hc0_2).mono ?_
 rintro _ w26 ⟨rfl, e27⟩
 have O4 := O4.ext e27
 have hB := ethen hB e27
 refine ⟨r23, rfl, ?_⟩
 refine brc H (fun h H => ?_) fun h H => ?_
 ·cases hr.trans H.symm
  exact ⟨rfl, hB⟩
 refine ⟨_, _, _, (O4.a 0), _, _, _, (O4.a 1), _, _, _, (O4.a 2), _, (O4.a 3), _, (O4.a 4), ?_⟩
 obtain ⟨hp30, H⟩ := H
 obtain ⟨r28, hr29, H⟩ := callO H
 refine (impl_Block_ended.con hp30 hr29 (R0_0.ext hB) hc0_0 (R0_1.ext hB) hc0_1 (R0_2.ext hB) hc0_2).mono ?_
 rintro _ w31 ⟨rfl, e32⟩
 have O4 := O4.ext e32
 have hB := ethen hB e32
 refine ⟨r28, rfl, ?_⟩
 refine brc H (fun h H => ?_) fun h H => ?_
 ·cases hr.trans H.symm
  exact ⟨rfl, hB⟩
 refine ⟨_, _, _, (O4.a 1), ?_⟩
 obtain ⟨J35, ⟨m51, hJ50⟩, hS36⟩ := H
 refine ⟨fun m_ z_ w_ => ∃ (i33 : Int), z_ = (i33, ()) ∧ J35 m_ (i33, ()) ∧ Ext w w_ ∧ Blk w_ g4_ 33 (bC A0_0 c0_0 A0_1 c0_1 A0_2 c0_2 s0), ⟨m51, 0, rfl, hJ50, hB, O4⟩, ?_⟩
 rintro m34 _ w38 ⟨i33, rfl, hJ52, hB, O4⟩
 have H := hS36 m34 _ hJ52
 clear hS36 hJ52
 try dsimp only at H ⊢
 refine brc H (fun h H => ?_) fun h H => ?_
 ·refine ⟨_, _, _, (O4.a 0), _, _, _, (O4.a 1), _, _, _, (O4.a 2), _, (O4.a 3), _, (O4.a 4), ?_⟩
  obtain ⟨hp41, H⟩ := H
  obtain ⟨r39, hr40, H⟩ := callO H
  refine (impl_Block_canStep.con hp41 hr40 (R0_0.ext hB) hc0_0 (R0_1.ext hB) hc0_1 (R0_2.ext hB) hc0_2).mono ?_
  rintro _ w42 ⟨rfl, e43⟩
  have O4 := O4.ext e43
  have hB := ethen hB e43
  refine ⟨r39, rfl, ?_⟩
  refine brc H (fun h H => ?_) fun h H => ?_
  ·cases hr.trans H.symm
   exact ⟨rfl, hB⟩
  obtain ⟨m44, hm45, hJ46⟩ := H
  exact ⟨m44, hm45, _, rfl, hJ46, hB, O4⟩
 cases hr.trans H.symm
 exact ⟨rfl, hB⟩
def impl_StuckReason.vc (A0_0 : OA) (n0_0 c0_0 : Nat) (A0_1 : OA) (n0_1 c0_1 : Nat) (A0_2 : OA) (n0_2 c0_2 : Nat) (x0_3 x0_4 : Int) (w : World) (K : VK) : Prop :=
  newK w (.cells (vB A0_0 n0_0 c0_0 A0_1 n0_1 c0_1 A0_2 n0_2 c0_2 x0_3 x0_4) 33) fun g21 w22 => ldB w22 (bx g21) fun A23 n24 c25 A26 n27 c28 A29 n30 c31 n32 n33 => Cl 20 #[(.agg (vB A23 n24 c25 A26 n27 c28 A29 n30 c31 n32 n33))] w22 fun v34 w35 => (∃ (b36 : Bool), v34 = (.bool b36) ∧ bcase (!b36) (K (.string (⟨#[]⟩)) w35) (ldS w35 (((bx g21).add 1).add 0) fun A37 n38 c39 => LoopT (σ := Int × Unit) (fun z40 w41 next42 => bcase (decide (z40.1 < ((n38 : Nat) : Int))) (ldB w41 (bx g21) fun A43 n44 c45 A46 n47 c48 A49 n50 c51 n52 n53 => Cl 24 #[(.agg (vB A43 n44 c45 A46 n47 c48 A49 n50 c51 n52 n53)), (iv z40.1)] w41 fun v54 w55 => (∃ (b56 : Bool), v54 = (.bool b56) ∧ bcase b56 (K (.string (⟨#[115, 112, 108, 105, 116]⟩)) w55) (next42 ((wrap .i64 (z40.1 + 1)), ()) w55))) (K (.string (⟨#[102, 114, 97, 109, 101, 115]⟩)) w41)) (0, ()) w35))

def impl_StuckReason.ann : Ann := (.seq .l (.seq (.seq .l (.two (.seq .l .l) .l)) (.seq (.seq .l (.one (.loop [(10, .int .i64)] (.seq .l (.seq (.two .l .l) (.seq (.one (.seq .l (.seq .l (.two (.seq .l .l) .l)))) .l)))))) (.seq .l .l))))

theorem impl_StuckReason.con {s0 : D.Block} {A0_0 A0_1 A0_2 : OA} {c0_0 c0_1 c0_2 : Nat} {r : ByteArray} {w : World} (hp : M.impl_StuckReason_pre s0) (hr : r = M.impl_StuckReason s0) (R0_0 : Row el84 w A0_0 s0.Code) (hc0_0 : s0.Code.length ≤ c0_0) (R0_1 : RowW 52 el91 el3 w A0_1 s0.Warps) (hc0_1 : s0.Warps.length ≤ c0_1) (R0_2 : Row el3 w A0_2 s0.Memory) (hc0_2 : s0.Memory.length ≤ c0_2) :
    Cl 25 #[(.agg (bC A0_0 c0_0 A0_1 c0_1 A0_2 c0_2 s0))] w (fun v_ w_ => v_ = (.string r) ∧ Ext w w_) := by
 have H := wp.impl_StuckReason.math s0 hp
 refine begK mixed Tryz.f25 ann (vc A0_0 s0.Code.length c0_0 A0_1 s0.Warps.length c0_1 A0_2 s0.Memory.length c0_2 s0.Waiting s0.Phase) ?_
 unfold vc
 unfold wp.impl_StuckReason at H
 refine newBlk (fun g4_ w21 L4 O4 e22 => ?_)
 have hB := ethen (Ext.refl w) e22
 refine ⟨_, _, _, (O4.a 0), _, _, _, (O4.a 1), _, _, _, (O4.a 2), _, (O4.a 3), _, (O4.a 4), ?_⟩
 obtain ⟨hp25, H⟩ := H
 obtain ⟨r23, hr24, H⟩ := callO H
 refine (impl_IsStuck.con hp25 hr24 (R0_0.ext hB) hc0_0 (R0_1.ext hB) hc0_1 (R0_2.ext hB) hc0_2).mono ?_
 rintro _ w26 ⟨rfl, e27⟩
 have O4 := O4.ext e27
 have hB := ethen hB e27
 refine ⟨r23, rfl, ?_⟩
 refine brc H (fun h H => ?_) fun h H => ?_
 ·cases hr.trans H.symm
  exact ⟨rfl, hB⟩
 refine ⟨_, _, _, (O4.a 1), ?_⟩
 obtain ⟨J30, ⟨m46, hJ45⟩, hS31⟩ := H
 refine ⟨fun m_ z_ w_ => ∃ (i28 : Int), z_ = (i28, ()) ∧ J30 m_ (i28, ()) ∧ Ext w w_ ∧ Blk w_ g4_ 33 (bC A0_0 c0_0 A0_1 c0_1 A0_2 c0_2 s0), ⟨m46, 0, rfl, hJ45, hB, O4⟩, ?_⟩
 rintro m29 _ w33 ⟨i28, rfl, hJ47, hB, O4⟩
 have H := hS31 m29 _ hJ47
 clear hS31 hJ47
 try dsimp only at H ⊢
 refine brc H (fun h H => ?_) fun h H => ?_
 ·refine ⟨_, _, _, (O4.a 0), _, _, _, (O4.a 1), _, _, _, (O4.a 2), _, (O4.a 3), _, (O4.a 4), ?_⟩
  obtain ⟨hp36, H⟩ := H
  obtain ⟨r34, hr35, H⟩ := callO H
  refine (impl_IsSplitBarrier.con hp36 hr35 (R0_0.ext hB) hc0_0 (R0_1.ext hB) hc0_1 (R0_2.ext hB) hc0_2).mono ?_
  rintro _ w37 ⟨rfl, e38⟩
  have O4 := O4.ext e38
  have hB := ethen hB e38
  refine ⟨r34, rfl, ?_⟩
  refine brc H (fun h H => ?_) fun h H => ?_
  ·cases hr.trans H.symm
   exact ⟨rfl, hB⟩
  obtain ⟨m39, hm40, hJ41⟩ := H
  exact ⟨m39, hm40, _, rfl, hJ41, hB, O4⟩
 cases hr.trans H.symm
 exact ⟨rfl, hB⟩
def spec_l08Others.vc (A0 : OA) (n0 c0 : Nat) (x1 : Int) (w : World) (K : VK) : Prop :=
  Run Tryz.prog (Instr.buildSlice 24 0 #[]) w fun v21 w22 => ∃ (A23 : OA) (n24 c25 : Nat), v21 = .slice A23 n24 c25 ∧ LoopT (σ := (OA × Nat × Nat) × Int × Unit) (fun z26 w27 next28 => bcase (decide (z26.2.1 < ((n0 : Nat) : Int))) ((idx z26.2.1 n0 A0 fun a29 => ldI w27 ((a29.add ((z26.2.1.toNat) * 1)).add 0) fun n30 => bcase (n30 != x1) ((idx z26.2.1 n0 A0 fun a31 => ldI w27 ((a31.add ((z26.2.1.toNat) * 1)).add 0) fun n32 => Run Tryz.prog (Instr.buildSlice 24 1 #[(0, (iv n32))]) w27 fun v33 w34 => ∃ (A35 : OA) (n36 c37 : Nat), v33 = .slice A35 n36 c37 ∧ Run Tryz.prog (Builtin.append_ #[24, 24] 24 #[(sv z26.1.1 z26.1.2.1 z26.1.2.2), (sv A35 n36 c37)]) w34 fun v38 w39 => ∃ (A40 : OA) (n41 c42 : Nat), v38 = .slice A40 n41 c42 ∧ next28 ((A40, n41, c42), (wrap .i64 (z26.2.1 + 1)), ()) w39)) (next28 ((z26.1.1, z26.1.2.1, z26.1.2.2), (wrap .i64 (z26.2.1 + 1)), ()) w27))) (K (sv z26.1.1 z26.1.2.1 z26.1.2.2) w27)) ((A23, n24, c25), 0, ()) w22

def spec_l08Others.ann : Ann := (.seq .l (.seq .l (.seq (.seq .l (.one (.loop [(5, .sl), (6, .int .i64)] (.seq (.seq .l (.two .l .l)) (.seq (.one (.seq .l (.two .l .l))) .l))))) (.seq .l .l))))

theorem spec_l08Others.con {xs0 r : List Int} {A0 : OA} {c0 : Nat} {x1 : Int} {w : World} (hp : M.spec_l08Others_pre xs0 x1) (hr : r = M.spec_l08Others xs0 x1) (R0 : Row el3 w A0 xs0) (hc0 : xs0.length ≤ c0) :
    Cl 253 #[(sv A0 xs0.length c0), (iv x1)] w (fun v_ w_ => ∃ (A0_ : OA) (c0_ : Nat), v_ = (sv A0_ r.length c0_) ∧ Own el3 w_ w.heap.size A0_ c0_ r ∧ Ext w w_) := by
 have H := wp.spec_l08Others.math xs0 x1 hp
 have hB := Ext.refl w
 refine begK mixed Tryz.f253 ann (vc A0 xs0.length c0 x1) ?_
 unfold vc
 unfold wp.spec_l08Others at H
 refine buildOwn el3 ([] : List Int) (fun _ => by kernel_rfl) rfl (fun A21 w22 P2 e23 => ?_)
 have O2 := P2.mono hB.size
 have hB := ethen hB e23
 obtain ⟨J29, ⟨m61, hJ60⟩, hS30⟩ := H
 refine ⟨fun m_ z_ w_ => ∃ (xs24 : List Int) (i27 : Int) (A25 : OA) (c26 : Nat), z_ = ((A25, xs24.length, c26), i27, ()) ∧ J29 m_ (xs24, i27, ()) ∧ Ext w w_ ∧ Own el3 w_ w.heap.size A25 c26 xs24, ⟨m61, ([] : List Int), 0, A21, 0, rfl, hJ60, hB, O2⟩, ?_⟩
 rintro m28 _ w32 ⟨xs24, i27, A25, c26, rfl, hJ62, hB, O3⟩
 have H := hS30 m28 _ hJ62
 clear hS30 hJ62
 try dsimp only at H ⊢
 refine brc H (fun h H => ?_) fun h H => ?_
 ·obtain ⟨⟨h0_36, h1_37⟩, H⟩ := H
  obtain ⟨a34, ha35, hat33⟩ := Row.at (R0.ext hB) h0_36 h1_37
  refine ⟨h0_36, h1_37, a34, ha35, _, (hat33 0 _ rfl), ?_⟩
  refine brc H (fun h H => ?_) fun h H => ?_
  ·obtain ⟨⟨h0_41, h1_42⟩, H⟩ := H
   obtain ⟨a39, ha40, hat38⟩ := Row.at (R0.ext hB) h0_41 h1_42
   refine ⟨h0_41, h1_42, a39, ha40, _, (hat38 0 _ rfl), ?_⟩
   refine buildOwn el3 ([(rd xs0 i27)] : List Int) (fun _ => by kernel_rfl) rfl (fun A43 w44 P4 e45 => ?_)
   have O3 := O3.ext e45
   have O4 := P4.mono hB.size
   have hB := ethen hB e45
   obtain ⟨hl50, H⟩ := H
   refine appO slt24 O3 O4.row hB.size hl50 (fun A46 c47 w48 P3 e49 => ?_)
   have hB := eapp hB e49 O3
   have O3 := P3
   obtain ⟨m51, hm52, hJ53⟩ := H
   exact ⟨m51, hm52, _, _, A46, c47, rfl, hJ53, hB, O3⟩
  obtain ⟨m54, hm55, hJ56⟩ := H
  exact ⟨m54, hm55, xs24, _, A25, c26, rfl, hJ56, hB, O3⟩
 cases hr.trans H.symm
 exact ⟨A25, c26, rfl, O3, hB⟩
def spec_l07Ok.vc (A0 : OA) (n0 c0 : Nat) (x1 : Int) (w : World) (K : VK) : Prop :=
  Cl 160 #[(sv A0 n0 c0)] w fun v21 w22 => (∃ (b23 : Bool), v21 = (.bool b23) ∧ bcase b23 (Cl 99 #[(iv x1), (iv 0), (iv ((n0 : Nat) : Int))] w22 fun v24 w25 => (∃ (b26 : Bool), v24 = (.bool b26) ∧ K (.bool b26) w25)) (K (.bool false) w22))

def spec_l07Ok.ann : Ann := (.seq .l (.seq .l .l))

theorem spec_l07Ok.con {xs0 : List D.Ins} {A0 : OA} {c0 : Nat} {x1 : Int} {r : Bool} {w : World} (hp : M.spec_l07Ok_pre xs0 x1) (hr : r = M.spec_l07Ok xs0 x1) (R0 : Row el84 w A0 xs0) (hc0 : xs0.length ≤ c0) :
    Cl 250 #[(sv A0 xs0.length c0), (iv x1)] w (fun v_ w_ => v_ = (.bool r) ∧ Ext w w_) := by
 have H := wp.spec_l07Ok.math xs0 x1 hp
 have hB := Ext.refl w
 refine begK mixed Tryz.f250 ann (vc A0 xs0.length c0 x1) ?_
 unfold vc
 unfold wp.spec_l07Ok at H
 obtain ⟨hp23, H⟩ := H
 obtain ⟨r21, hr22, H⟩ := callO H
 refine (spec_ProgramOk.con hp23 hr22 (R0.ext hB) hc0).mono ?_
 rintro _ w24 ⟨rfl, e25⟩
 have hB := ethen hB e25
 refine ⟨r21, rfl, ?_⟩
 refine brc H (fun h H => ?_) fun h H => ?_
 ·obtain ⟨r26, hr27, H⟩ := callO H
  refine (spec_l01In.con hr27 ).mono ?_
  rintro _ w29 ⟨rfl, e30⟩
  have hB := ethen hB e30
  refine ⟨r26, rfl, ?_⟩
  cases hr.trans H.symm
  exact ⟨rfl, hB⟩
 cases hr.trans H.symm
 exact ⟨rfl, hB⟩
def spec_l04Put.vc (A0 : OA) (n0 c0 : Nat) (x1 : Int) (w : World) (K : VK) : Prop :=
  JoinT (σ := Int × Unit) (fun J21 => LoopT (σ := Int × Unit) (fun z22 w23 next24 => bcase (decide (z22.1 > 0)) ((idx (wrap .i64 (z22.1 - 1)) n0 A0 fun a25 => ldI w23 ((a25.add (((wrap .i64 (z22.1 - 1)).toNat) * 1)).add 0) fun n26 => bcase (decide (n26 > x1)) (next24 ((wrap .i64 (z22.1 - 1)), ()) w23) (J21 (z22.1, ()) w23))) (J21 (z22.1, ()) w23)) (((n0 : Nat) : Int), ()) w) fun z27 w28 => JoinT (σ := Unit) (fun J29 => bcase (decide (z27.1 > 0)) ((idx (wrap .i64 (z27.1 - 1)) n0 A0 fun a30 => ldI w28 ((a30.add (((wrap .i64 (z27.1 - 1)).toNat) * 1)).add 0) fun n31 => bcase (n31 == x1) (K (sv A0 n0 c0) w28) (J29 () w28))) (J29 () w28)) fun z32 w33 => Run Tryz.prog (Instr.buildSlice 24 0 #[]) w33 fun v34 w35 => ∃ (A36 : OA) (n37 c38 : Nat), v34 = .slice A36 n37 c38 ∧ ((0 : Int) ≤ z27.1 ∧ z27.1 ≤ ((c0 : Nat) : Int) ∧ Run Tryz.prog (Builtin.append_ #[24, 24] 24 #[(sv A36 n37 c38), (sv A0 (z27.1.toNat) c0)]) w35 fun v39 w40 => ∃ (A41 : OA) (n42 c43 : Nat), v39 = .slice A41 n42 c43 ∧ Run Tryz.prog (Instr.buildSlice 24 1 #[(0, (iv x1))]) w40 fun v44 w45 => ∃ (A46 : OA) (n47 c48 : Nat), v44 = .slice A46 n47 c48 ∧ Run Tryz.prog (Builtin.append_ #[24, 24] 24 #[(sv A41 n42 c43), (sv A46 n47 c48)]) w45 fun v49 w50 => ∃ (A51 : OA) (n52 c53 : Nat), v49 = .slice A51 n52 c53 ∧ ((0 : Int) ≤ z27.1 ∧ z27.1 ≤ ((n0 : Nat) : Int) ∧ Run Tryz.prog (Builtin.append_ #[24, 24] 24 #[(sv A51 n52 c53), (sv (if c0 = (z27.1.toNat) then A0 else A0.map (·.add ((z27.1.toNat) * szOf Tryz.prog 3))) (n0 - (z27.1.toNat)) (c0 - (z27.1.toNat)))]) w50 fun v54 w55 => ∃ (A56 : OA) (n57 c58 : Nat), v54 = .slice A56 n57 c58 ∧ K (sv A56 n57 c58) w55))

def spec_l04Put.ann : Ann := (.seq .l (.seq .l (.cut [(5, .int .i64)] (.one (.loop [(5, .int .i64)] (.seq (.seq .l (.two .l .l)) (.one .l)))) (.cut [] (.seq .l (.two (.seq .l .l) .l)) (.seq .l (.seq .l (.seq .l .l)))))))

theorem spec_l04Put.con {xs0 r : List Int} {A0 : OA} {c0 : Nat} {x1 : Int} {w : World} (hp : M.spec_l04Put_pre xs0 x1) (hr : r = M.spec_l04Put xs0 x1) (O1 : Own el3 w 0 A0 c0 xs0) :
    Cl 102 #[(sv A0 xs0.length c0), (iv x1)] w (fun v_ w_ => ∃ (A0_ : OA) (c0_ : Nat), v_ = (sv A0_ r.length c0_) ∧ Own el3 w_ 0 A0_ c0_ r ∧ Mov w A0 A0_ ∧ Chg (InB A0) w w_) := by
 have H := wp.spec_l04Put.math xs0 x1 hp
 have hB := Chg.refl (InB A0) w
 refine begK mixed Tryz.f102 ann (vc A0 xs0.length c0 x1) ?_
 unfold vc
 unfold wp.spec_l04Put at H
 obtain ⟨K83, hKK83, H⟩ := joinP_out H
 refine ⟨fun z_ w_ => ∃ (i21 : Int), z_ = (i21, ()) ∧ K83 (i21, ()) ∧ Chg (InB A0) w w_ ∧ Own el3 w_ 0 A0 c0 xs0, ?_, ?_⟩
 ·obtain ⟨J27, ⟨m43, hJ42⟩, hS28⟩ := H
  refine ⟨fun m_ z_ w_ => ∃ (i25 : Int), z_ = (i25, ()) ∧ J27 m_ (i25, ()) ∧ Chg (InB A0) w w_ ∧ Own el3 w_ 0 A0 c0 xs0, ⟨m43, (xs0.length : Int), rfl, hJ42, hB, O1⟩, ?_⟩
  rintro m26 _ w30 ⟨i25, rfl, hJ44, hB, O1⟩
  have H := hS28 m26 _ hJ44
  clear hS28 hJ44
  try dsimp only at H ⊢
  refine brc H (fun h H => ?_) fun h H => ?_
  ·obtain ⟨⟨h0_34, h1_35⟩, H⟩ := H
   obtain ⟨a32, ha33, hat31⟩ := Row.at O1.row h0_34 h1_35
   refine ⟨h0_34, h1_35, a32, ha33, _, (hat31 0 _ rfl), ?_⟩
   refine brc H (fun h H => ?_) fun h H => ?_
   ·obtain ⟨m36, hm37, hJ38⟩ := H
    exact ⟨m36, hm37, _, rfl, hJ38, hB, O1⟩
   exact ⟨i25, rfl, H, hB, O1⟩
  exact ⟨i25, rfl, H, hB, O1⟩
 rintro _ w23 ⟨i21, rfl, H, hB, O1⟩
 have H := hKK83 _ H
 try dsimp only at H ⊢
 obtain ⟨K81, hKK81, H⟩ := joinP_out H
 refine ⟨fun z_ w_ => z_ = (()) ∧ K81 (()) ∧ Chg (InB A0) w w_ ∧ Own el3 w_ 0 A0 c0 xs0, ?_, ?_⟩
 ·refine brc H (fun h H => ?_) fun h H => ?_
  ·obtain ⟨⟨h0_51, h1_52⟩, H⟩ := H
   obtain ⟨a49, ha50, hat48⟩ := Row.at O1.row h0_51 h1_52
   refine ⟨h0_51, h1_52, a49, ha50, _, (hat48 0 _ rfl), ?_⟩
   refine brc H (fun h H => ?_) fun h H => ?_
   ·cases hr.trans H.symm
    exact ⟨A0, c0, rfl, (O1.mono (Nat.zero_le _)), (Mov.same _ _), hB⟩
   exact ⟨rfl, H, hB, O1⟩
  exact ⟨rfl, H, hB, O1⟩
 rintro _ w46 ⟨rfl, H, hB, O1⟩
 have H := hKK81 _ H
 try dsimp only at H ⊢
 refine buildOwn el3 ([] : List Int) (fun _ => by kernel_rfl) rfl (fun A55 w56 P2 e57 => ?_)
 have N1_2 := aN O1 P2
 have O1 := O1.ext e57
 have O2 := P2.mono hB.size
 have hB := hB.then e57
 obtain ⟨⟨hh58, hh59⟩, H⟩ := H
 refine and_assoc.1 ⟨⟨hh58, Int.le_trans hh59 (Int.ofNat_le.2 O1.le)⟩, ?_⟩
 have O3 := (O1.take (i21.toNat))
 obtain ⟨hl64, H⟩ := H
 refine appO slt24 O2 O3.row hB.size hl64 (fun A60 c61 w62 P2 e63 => ?_)
 have N1_2_ := Apart2.app N1_2 e63 O1
 have O1 := O1.app e63 N1_2
 have N1_2 := N1_2_
 have hB := hB.app e63 (fun g h_ => Or.inl (O2.low g h_))
 refine buildOwn el3 ([x1] : List Int) (fun _ => by kernel_rfl) rfl (fun A65 w66 P4 e67 => ?_)
 have O2 := P2.ext e67
 have O4 := P4.mono hB.size
 have hB := hB.then e67
 obtain ⟨hl72, H⟩ := H
 refine appO slt24 O2 O4.row hB.size hl72 (fun A68 c69 w70 P2 e71 => ?_)
 have O1 := (O1.ext e67).app e71 N1_2
 have hB := hB.app e71 (fun g h_ => Or.inl (O2.low g h_))
 have O2 := P2
 obtain ⟨⟨hl73, hl74⟩, H⟩ := H
 refine and_assoc.1 ⟨⟨hl73, hl74⟩, ?_⟩
 have O5 := (O1.drop (l := (i21.toNat)) (by first | omega | (simp; done) | (simp; omega)))
 obtain ⟨hl79, H⟩ := H
 refine appO slt24 O2 O5.row hB.size hl79 (fun A75 c76 w77 P2 e78 => ?_)
 have hB := hB.app e78 (fun g h_ => Or.inl (O2.low g h_))
 have O2 := P2
 cases hr.trans H.symm
 exact ⟨A75, c76, rfl, (O2.mono (Nat.zero_le _)), (Mov.new O2), hB⟩
def spec_l07Next.vc (A0 : OA) (n0 c0 : Nat) (x1 : Int) (w : World) (K : VK) : Prop :=
  bcase (x1 == ((n0 : Nat) : Int)) (Run Tryz.prog (Instr.buildSlice 24 0 #[]) w fun v21 w22 => ∃ (A23 : OA) (n24 c25 : Nat), v21 = .slice A23 n24 c25 ∧ K (sv A23 n24 c25) w22) ((idx x1 n0 A0 fun a26 => ldI w (((a26.add ((x1.toNat) * 4)).add 0).add 0) fun n27 => bcase (n27 == 12) (Run Tryz.prog (Instr.buildSlice 24 1 #[(0, (iv ((n0 : Nat) : Int)))]) w fun v28 w29 => ∃ (A30 : OA) (n31 c32 : Nat), v28 = .slice A30 n31 c32 ∧ K (sv A30 n31 c32) w29) (bcase (n27 == 11) ((idx x1 n0 A0 fun a33 => ldI w (((a33.add ((x1.toNat) * 4)).add 2).add 0) fun n34 => Run Tryz.prog (Instr.buildSlice 24 1 #[(0, (iv n34))]) w fun v35 w36 => ∃ (A37 : OA) (n38 c39 : Nat), v35 = .slice A37 n38 c39 ∧ K (sv A37 n38 c39) w36)) (bcase (n27 == 10) (Run Tryz.prog (Instr.buildSlice 24 1 #[(0, (iv (wrap .i64 (x1 + 1))))]) w fun v40 w41 => ∃ (A42 : OA) (n43 c44 : Nat), v40 = .slice A42 n43 c44 ∧ (idx x1 n0 A0 fun a45 => ldI w41 (((a45.add ((x1.toNat) * 4)).add 2).add 0) fun n46 => Cl 102 #[(sv A42 n43 c44), (iv n46)] w41 fun v47 w48 => (∃ (A49 : OA) (n50 c51 : Nat), v47 = (sv A49 n50 c51) ∧ K (sv A49 n50 c51) w48))) (Run Tryz.prog (Instr.buildSlice 24 1 #[(0, (iv (wrap .i64 (x1 + 1))))]) w fun v52 w53 => ∃ (A54 : OA) (n55 c56 : Nat), v52 = .slice A54 n55 c56 ∧ K (sv A54 n55 c56) w53)))))

def spec_l07Next.ann : Ann := (.seq .l (.seq (.seq .l (.two (.seq .l .l) .l)) (.seq (.seq .l (.one (.seq .l (.two (.seq .l .l) (.seq .l (.two (.seq .l .l) (.seq .l (.two (.seq .l .l) .l)))))))) (.seq .l .l))))

theorem spec_l07Next.con {xs0 : List D.Ins} {A0 : OA} {c0 : Nat} {x1 : Int} {r : List Int} {w : World} (hp : M.spec_l07Next_pre xs0 x1) (hr : r = M.spec_l07Next xs0 x1) (R0 : Row el84 w A0 xs0) (hc0 : xs0.length ≤ c0) :
    Cl 259 #[(sv A0 xs0.length c0), (iv x1)] w (fun v_ w_ => ∃ (A0_ : OA) (c0_ : Nat), v_ = (sv A0_ r.length c0_) ∧ Own el3 w_ w.heap.size A0_ c0_ r ∧ Ext w w_) := by
 have H := wp.spec_l07Next.math xs0 x1 hp
 have hB := Ext.refl w
 refine begK mixed Tryz.f259 ann (vc A0 xs0.length c0 x1) ?_
 unfold vc
 unfold wp.spec_l07Next at H
 refine brc H (fun h H => ?_) fun h H => ?_
 ·refine buildOwn el3 ([] : List Int) (fun _ => by kernel_rfl) rfl (fun A21 w22 P2 e23 => ?_)
  have O2 := P2.mono hB.size
  have hB := ethen hB e23
  cases hr.trans H.symm
  exact ⟨A21, 0, (by first | rfl | (simp; done) | (simp; omega) | (simp [*]; done)), (by first | exact O2 | (simp only [bC, wC, List.length_set]; exact O2)), hB⟩
 obtain ⟨⟨h0_27, h1_28⟩, H⟩ := H
 obtain ⟨a25, ha26, hat24⟩ := Row.at (R0.ext hB) h0_27 h1_28
 refine ⟨h0_27, h1_28, a25, ha26, _, (hat24 0 _ rfl), ?_⟩
 refine brc H (fun h H => ?_) fun h H => ?_
 ·refine buildOwn el3 ([(xs0.length : Int)] : List Int) (fun _ => by kernel_rfl) rfl (fun A29 w30 P3 e31 => ?_)
  have O3 := P3.mono hB.size
  have hB := ethen hB e31
  cases hr.trans H.symm
  exact ⟨A29, 1, (by first | rfl | (simp; done) | (simp; omega) | (simp [*]; done)), (by first | exact O3 | (simp only [bC, wC, List.length_set]; exact O3)), hB⟩
 refine brc H (fun h H => ?_) fun h H => ?_
 ·obtain ⟨⟨h0_35, h1_36⟩, H⟩ := H
  obtain ⟨a33, ha34, hat32⟩ := Row.at (R0.ext hB) h0_35 h1_36
  refine ⟨h0_35, h1_36, a33, ha34, _, (hat32 2 _ rfl), ?_⟩
  refine buildOwn el3 ([(rd xs0 x1).B] : List Int) (fun _ => by kernel_rfl) rfl (fun A37 w38 P4 e39 => ?_)
  have O4 := P4.mono hB.size
  have hB := ethen hB e39
  cases hr.trans H.symm
  exact ⟨A37, 1, (by first | rfl | (simp; done) | (simp; omega) | (simp [*]; done)), (by first | exact O4 | (simp only [bC, wC, List.length_set]; exact O4)), hB⟩
 refine brc H (fun h H => ?_) fun h H => ?_
 ·refine buildOwn el3 ([(wrap .i64 (x1 + 1))] : List Int) (fun _ => by kernel_rfl) rfl (fun A40 w41 P5 e42 => ?_)
  have O5 := P5.mono hB.size
  have hB := ethen hB e42
  obtain ⟨⟨h0_46, h1_47⟩, H⟩ := H
  obtain ⟨a44, ha45, hat43⟩ := Row.at (R0.ext hB) h0_46 h1_47
  refine ⟨h0_46, h1_47, a44, ha45, _, (hat43 2 _ rfl), ?_⟩
  obtain ⟨hp50, H⟩ := H
  obtain ⟨r48, hr49, H⟩ := callO H
  refine (cllA (spec_l04Put.con hp50 hr49 (O5.mono (Nat.zero_le _)))).mono ?_
  rintro _ w51 ⟨A53, c54, rfl, P6, Mv6, e52⟩
  have Lw6 := Mv6.low O5.low hB.size
  have hB := Chg.ext hB e52 O5.low
  have O6 := P6.lift Lw6
  refine ⟨A53, r48.length, c54, rfl, ?_⟩
  cases hr.trans H.symm
  exact ⟨A53, c54, rfl, O6, hB⟩
 refine buildOwn el3 ([(wrap .i64 (x1 + 1))] : List Int) (fun _ => by kernel_rfl) rfl (fun A55 w56 P7 e57 => ?_)
 have O7 := P7.mono hB.size
 have hB := ethen hB e57
 cases hr.trans H.symm
 exact ⟨A55, 1, (by first | rfl | (simp; done) | (simp; omega) | (simp [*]; done)), (by first | exact O7 | (simp only [bC, wC, List.length_set]; exact O7)), hB⟩
def spec_l07Reach.vc (A0 : OA) (n0 c0 : Nat) (A1 : OA) (n1 c1 : Nat) (w : World) (K : VK) : Prop :=
  vcMake Tryz.prog 149 (wrap .i64 (((n0 : Nat) : Int) + 1)) (wrap .i64 (((n0 : Nat) : Int) + 1)) w fun g21 w22 => Run Tryz.prog (Instr.buildSlice 24 0 #[]) w22 fun v23 w24 => ∃ (A25 : OA) (n26 c27 : Nat), v23 = .slice A25 n26 c27 ∧ Run Tryz.prog (Builtin.append_ #[24, 24] 24 #[(sv A25 n26 c27), (sv A1 n1 c1)]) w24 fun v28 w29 => ∃ (A30 : OA) (n31 c32 : Nat), v28 = .slice A30 n31 c32 ∧ LoopT (σ := (OA × Nat × Nat) × Unit) (fun z33 w34 next35 => bcase (decide (((z33.1.2.1 : Nat) : Int) > 0)) ((idx 0 z33.1.2.1 z33.1.1 fun a36 => ldI w34 ((a36.add (((0 : Int).toNat) * 1)).add 0) fun n37 => ((0 : Int) ≤ 1 ∧ 1 ≤ ((z33.1.2.1 : Nat) : Int) ∧ (idx n37 ((wrap .i64 (((n0 : Nat) : Int) + 1)).toNat) ((some (bx g21))) fun a38 => ∃ (b39 : Bool), w34.cell? ((a38.add ((n37.toNat) * 1)).add 0) = some (.bool b39) ∧ bcase b39 (next35 (((if z33.1.2.2 = ((1 : Int).toNat) then z33.1.1 else z33.1.1.map (·.add (((1 : Int).toNat) * szOf Tryz.prog 3))), (z33.1.2.1 - ((1 : Int).toNat)), (z33.1.2.2 - ((1 : Int).toNat))), ()) w34) ((idx n37 ((wrap .i64 (((n0 : Nat) : Int) + 1)).toNat) ((some (bx g21))) fun a40 => stCells (a40.add ((n37.toNat) * 1)) [(.bool true)] 0 w34 fun w41 => Cl 259 #[(sv A0 n0 c0), (iv n37)] w41 fun v42 w43 => (∃ (A44 : OA) (n45 c46 : Nat), v42 = (sv A44 n45 c46) ∧ Run Tryz.prog (Builtin.append_ #[24, 24] 24 #[(sv (if z33.1.2.2 = ((1 : Int).toNat) then z33.1.1 else z33.1.1.map (·.add (((1 : Int).toNat) * szOf Tryz.prog 3))) (z33.1.2.1 - ((1 : Int).toNat)) (z33.1.2.2 - ((1 : Int).toNat))), (sv A44 n45 c46)]) w43 fun v47 w48 => ∃ (A49 : OA) (n50 c51 : Nat), v47 = .slice A49 n50 c51 ∧ next35 ((A49, n50, c51), ()) w48))))))) (K (sv (some (bx g21)) ((wrap .i64 (((n0 : Nat) : Int) + 1)).toNat) ((wrap .i64 (((n0 : Nat) : Int) + 1)).toNat)) w34)) ((A30, n31, c32), ()) w29

def spec_l07Reach.ann : Ann := (.seq .l (.seq .l (.seq .l (.seq (.one (.loop [(6, .sl)] (.seq (.seq .l (.two .l .l)) (.one (.seq .l (.seq .l (.seq (.seq .l (.two .l .l)) (.seq .l .l)))))))) (.seq .l .l)))))

theorem spec_l07Reach.con {xs0 : List D.Ins} {A0 A1 : OA} {c0 c1 : Nat} {xs1 : List Int} {r : List Bool} {w : World} (hp : M.spec_l07Reach_pre xs0 xs1) (hr : r = M.spec_l07Reach xs0 xs1) (R0 : Row el84 w A0 xs0) (hc0 : xs0.length ≤ c0) (R1 : Row el3 w A1 xs1) (hc1 : xs1.length ≤ c1) :
    Cl 251 #[(sv A0 xs0.length c0), (sv A1 xs1.length c1)] w (fun v_ w_ => ∃ (A0_ : OA) (c0_ : Nat), v_ = (sv A0_ r.length c0_) ∧ Own el4 w_ w.heap.size A0_ c0_ r ∧ Ext w w_) := by
 have H := wp.spec_l07Reach.math xs0 xs1 hp
 have hB := Ext.refl w
 refine begK mixed Tryz.f251 ann (vc A0 xs0.length c0 A1 xs1.length c1) ?_
 unfold vc
 unfold wp.spec_l07Reach at H
 obtain ⟨⟨h0_24, h1_25⟩, H⟩ := H
 refine makeOwn slt149 h0_24 h1_25 (fun g21 w22 P3 e23 => ?_)
 have O3 := P3.mono hB.size
 have hB := ethen hB e23
 refine buildOwn el3 ([] : List Int) (fun _ => by kernel_rfl) rfl (fun A26 w27 P4 e28 => ?_)
 have N3_4 := aN O3 P4
 have O4 := P4.mono hB.size
 have hB := ethen hB e28
 obtain ⟨hl33, H⟩ := H
 refine appO slt24 O4 (R1.ext hB) hB.size hl33 (fun A29 c30 w31 P4 e32 => ?_)
 have O3 := (O3.ext e28).app e32 N3_4
 have hB := eapp hB e32 O4
 have O4 := P4
 obtain ⟨J83, ⟨m129, hJ128⟩, hS84⟩ := H
 refine ⟨fun m_ z_ w_ => ∃ (xs77 : List Int) (xs80 : List Bool) (A78 : OA) (c79 : Nat), z_ = ((A78, xs77.length, c79), ()) ∧ J83 m_ (xs77, xs80, ()) ∧ Ext w w_ ∧ Own el3 w_ w.heap.size A78 c79 xs77 ∧ Own el4 w_ w.heap.size (some (bx g21)) ((wrap .i64 ((xs0.length : Int) + 1)).toNat) xs80 ∧ ((wrap .i64 ((xs0.length : Int) + 1)).toNat) = xs80.length, ⟨m129, (([] : List Int) ++ xs1), (List.replicate ((wrap .i64 ((xs0.length : Int) + 1)).toNat) (default : Bool)), A29, c30, rfl, hJ128, hB, O4, O3, (by first | rfl | assumption | omega | (simp; done) | (simp; omega) | (simp; assumption))⟩, ?_⟩
 rintro m82 _ w86 ⟨xs77, xs80, A78, c79, rfl, hJ130, hB, O8, O3, hn81⟩
 have H := hS84 m82 _ hJ130
 clear hS84 hJ130
 try dsimp only at H ⊢
 refine brc H (fun h H => ?_) fun h H => ?_
 ·obtain ⟨⟨h0_90, h1_91⟩, H⟩ := H
  obtain ⟨a88, ha89, hat87⟩ := Row.at O8.row h0_90 h1_91
  refine ⟨h0_90, h1_91, a88, ha89, _, (hat87 0 _ rfl), ?_⟩
  obtain ⟨⟨hl92, hl93⟩, H⟩ := H
  refine and_assoc.1 ⟨⟨hl92, hl93⟩, ?_⟩
  rw [show (xs77.length - ((1 : Int).toNat)) = ((List.drop ((1 : Int).toNat) xs77)).length from by first | rfl | (simp; done) | (simp; omega)]
  have O9 := (O8.drop (l := ((1 : Int).toNat)) (by first | omega | (simp; done) | (simp; omega)))
  obtain ⟨⟨h0_97, h1_98⟩, H⟩ := H
  obtain ⟨a95, ha96, hat94⟩ := Row.at O3.row h0_97 h1_98
  refine ⟨h0_97, (by first | exact h1_98 | omega | (simp at h1_98 ⊢; omega)), a95, ha96, _, (hat94 0 _ rfl), ?_⟩
  refine brc H (fun h H => ?_) fun h H => ?_
  ·obtain ⟨m99, hm100, hJ101⟩ := H
   exact ⟨m99, hm100, _, xs80, _, _, rfl, hJ101, hB, O9, O3, (by first | rfl | assumption | omega | (simp; done) | (simp; omega) | (simp; assumption))⟩
  obtain ⟨⟨h0_105, h1_106⟩, H⟩ := H
  obtain ⟨a103, ha104, hat102⟩ := Row.at O3.row h0_105 h1_106
  refine ⟨h0_105, (by first | exact h1_106 | omega | (simp at h1_106 ⊢; omega)), a103, ha104, ?_⟩
  refine Own.stA O3 ha104 h0_105 h1_106 0 true (fun w107 P3 e108 hb109 => ?_)
  have O8_ := O8.chg e108 (((Own.apart2_type O8 O3 (by decide))).left ha104)
  have O9 := O9.chg e108 (((cutApart2 (Own.apart2_type O8 O3 (by decide)))).left ha104)
  have hB := echg hB e108 hb109
  obtain ⟨hp112, H⟩ := H
  obtain ⟨r110, hr111, H⟩ := callO H
  refine (spec_l07Next.con hp112 hr111 (R0.ext hB) hc0).mono ?_
  rintro _ w113 ⟨A115, c116, rfl, P10, e114⟩
  have O3 := P3.ext e114
  have O8 := O8_.ext e114
  have O9 := O9.ext e114
  have O10 := P10.mono hB.size
  have hB := ethen hB e114
  refine ⟨A115, r110.length, c116, rfl, ?_⟩
  obtain ⟨hl121, H⟩ := H
  refine appO slt24 O9 O10.row hB.size hl121 (fun A117 c118 w119 P9 e120 => ?_)
  have O3 := O3.app e120 (cutApart2 (Own.apart2_type O3 O8 (by decide)).symm).symm
  have hB := eapp hB e120 O9
  have O9 := P9
  obtain ⟨m122, hm123, hJ124⟩ := H
  exact ⟨m122, hm123, _, _, A117, c118, rfl, hJ124, hB, O9, O3, (by first | rfl | assumption | omega | (simp; done) | (simp; omega) | (simp; assumption))⟩
 cases hr.trans H.symm
 exact ⟨(some (bx g21)), ((wrap .i64 ((xs0.length : Int) + 1)).toNat), (by first | rfl | (rw [hn81]; done) | (simp; done) | (simp; omega) | (simp [*]; done)), (by first | exact O3 | (simp only [bC, wC, List.length_set]; exact O3) | (rw [← hn81]; exact O3)), hB⟩
def spec_ReachesExit.vc (A0 : OA) (n0 c0 : Nat) (x1 : Int) (w : World) (K : VK) : Prop :=
  Cl 250 #[(sv A0 n0 c0), (iv x1)] w fun v21 w22 => (∃ (b23 : Bool), v21 = (.bool b23) ∧ bcase b23 (Run Tryz.prog (Instr.buildSlice 24 1 #[(0, (iv x1))]) w22 fun v24 w25 => ∃ (A26 : OA) (n27 c28 : Nat), v24 = .slice A26 n27 c28 ∧ Cl 251 #[(sv A0 n0 c0), (sv A26 n27 c28)] w25 fun v29 w30 => (∃ (A31 : OA) (n32 c33 : Nat), v29 = (sv A31 n32 c33) ∧ (idx ((n0 : Nat) : Int) n32 A31 fun a34 => ∃ (b35 : Bool), w30.cell? ((a34.add ((((n0 : Nat) : Int).toNat) * 1)).add 0) = some (.bool b35) ∧ K (.bool b35) w30))) (K (.bool false) w22))

def spec_ReachesExit.ann : Ann := (.seq .l (.seq .l .l))

theorem spec_ReachesExit.con {xs0 : List D.Ins} {A0 : OA} {c0 : Nat} {x1 : Int} {r : Bool} {w : World} (hp : M.spec_ReachesExit_pre xs0 x1) (hr : r = M.spec_ReachesExit xs0 x1) (R0 : Row el84 w A0 xs0) (hc0 : xs0.length ≤ c0) :
    Cl 242 #[(sv A0 xs0.length c0), (iv x1)] w (fun v_ w_ => v_ = (.bool r) ∧ Ext w w_) := by
 have H := wp.spec_ReachesExit.math xs0 x1 hp
 have hB := Ext.refl w
 refine begK mixed Tryz.f242 ann (vc A0 xs0.length c0 x1) ?_
 unfold vc
 unfold wp.spec_ReachesExit at H
 obtain ⟨hp23, H⟩ := H
 obtain ⟨r21, hr22, H⟩ := callO H
 refine (spec_l07Ok.con hp23 hr22 (R0.ext hB) hc0).mono ?_
 rintro _ w24 ⟨rfl, e25⟩
 have hB := ethen hB e25
 refine ⟨r21, rfl, ?_⟩
 refine brc H (fun h H => ?_) fun h H => ?_
 ·refine buildOwn el3 ([x1] : List Int) (fun _ => by kernel_rfl) rfl (fun A26 w27 P2 e28 => ?_)
  have O2 := P2.mono hB.size
  have hB := ethen hB e28
  obtain ⟨hp31, H⟩ := H
  obtain ⟨r29, hr30, H⟩ := callO H
  refine (cllA (spec_l07Reach.con hp31 hr30 (R0.ext hB) hc0 O2.row O2.le)).mono ?_
  rintro _ w32 ⟨A34, c35, rfl, P3, e33⟩
  have O3 := P3.mono hB.size
  have hB := ethen hB e33
  refine ⟨A34, r29.length, c35, rfl, ?_⟩
  obtain ⟨⟨h0_39, h1_40⟩, H⟩ := H
  obtain ⟨a37, ha38, hat36⟩ := Row.at O3.row h0_39 h1_40
  refine ⟨h0_39, h1_40, a37, ha38, _, (hat36 0 _ rfl), ?_⟩
  cases hr.trans H.symm
  exact ⟨rfl, hB⟩
 cases hr.trans H.symm
 exact ⟨rfl, hB⟩
def spec_l08After.vc (A0 : OA) (n0 c0 : Nat) (x1 x2 : Int) (w : World) (K : VK) : Prop :=
  bcase (x1 == x2) (K (.bool true) w) (vcMake Tryz.prog 149 (wrap .i64 (((n0 : Nat) : Int) + 1)) (wrap .i64 (((n0 : Nat) : Int) + 1)) w fun g21 w22 => Run Tryz.prog (Instr.buildSlice 24 1 #[(0, (iv x1))]) w22 fun v23 w24 => ∃ (A25 : OA) (n26 c27 : Nat), v23 = .slice A25 n26 c27 ∧ LoopT (σ := (OA × Nat × Nat) × Unit) (fun z28 w29 next30 => bcase (decide (((z28.1.2.1 : Nat) : Int) > 0)) ((idx 0 z28.1.2.1 z28.1.1 fun a31 => ldI w29 ((a31.add (((0 : Int).toNat) * 1)).add 0) fun n32 => ((0 : Int) ≤ 1 ∧ 1 ≤ ((z28.1.2.1 : Nat) : Int) ∧ (idx n32 ((wrap .i64 (((n0 : Nat) : Int) + 1)).toNat) ((some (bx g21))) fun a34 => ∃ (b35 : Bool), w29.cell? ((a34.add ((n32.toNat) * 1)).add 0) = some (.bool b35) ∧ bcase b35 (next30 (((if z28.1.2.2 = ((1 : Int).toNat) then z28.1.1 else z28.1.1.map (·.add (((1 : Int).toNat) * szOf Tryz.prog 3))), (z28.1.2.1 - ((1 : Int).toNat)), (z28.1.2.2 - ((1 : Int).toNat))), ()) w29) (bcase (n32 == x2) (next30 (((if z28.1.2.2 = ((1 : Int).toNat) then z28.1.1 else z28.1.1.map (·.add (((1 : Int).toNat) * szOf Tryz.prog 3))), (z28.1.2.1 - ((1 : Int).toNat)), (z28.1.2.2 - ((1 : Int).toNat))), ()) w29) (bcase (n32 == ((n0 : Nat) : Int)) (K (.bool false) w29) ((idx n32 ((wrap .i64 (((n0 : Nat) : Int) + 1)).toNat) ((some (bx g21))) fun a36 => stCells (a36.add ((n32.toNat) * 1)) [(.bool true)] 0 w29 fun w37 => Cl 259 #[(sv A0 n0 c0), (iv n32)] w37 fun v38 w39 => (∃ (A40 : OA) (n41 c42 : Nat), v38 = (sv A40 n41 c42) ∧ Run Tryz.prog (Builtin.append_ #[24, 24] 24 #[(sv (if z28.1.2.2 = ((1 : Int).toNat) then z28.1.1 else z28.1.1.map (·.add (((1 : Int).toNat) * szOf Tryz.prog 3))) (z28.1.2.1 - ((1 : Int).toNat)) (z28.1.2.2 - ((1 : Int).toNat))), (sv A40 n41 c42)]) w39 fun v43 w44 => ∃ (A45 : OA) (n46 c47 : Nat), v43 = .slice A45 n46 c47 ∧ next30 ((A45, n46, c47), ()) w44))))))))) (K (.bool true) w29)) ((A25, n26, c27), ()) w24)

def spec_l08After.ann : Ann := (.seq .l (.seq (.seq .l (.two (.seq .l .l) .l)) (.seq .l (.seq .l (.seq (.one (.loop [(8, .sl)] (.seq (.seq .l (.two .l .l)) (.one (.seq .l (.seq .l (.seq (.seq .l (.two .l .l)) (.seq (.seq .l (.two (.seq .l .l) .l)) (.seq .l .l))))))))) (.seq .l .l))))))

theorem spec_l08After.con {xs0 : List D.Ins} {A0 : OA} {c0 : Nat} {x1 x2 : Int} {r : Bool} {w : World} (hp : M.spec_l08After_pre xs0 x1 x2) (hr : r = M.spec_l08After xs0 x1 x2) (R0 : Row el84 w A0 xs0) (hc0 : xs0.length ≤ c0) :
    Cl 260 #[(sv A0 xs0.length c0), (iv x1), (iv x2)] w (fun v_ w_ => v_ = (.bool r) ∧ Ext w w_) := by
 have H := wp.spec_l08After.math xs0 x1 x2 hp
 have hB := Ext.refl w
 refine begK mixed Tryz.f260 ann (vc A0 xs0.length c0 x1 x2) ?_
 unfold vc
 unfold wp.spec_l08After at H
 refine brc H (fun h H => ?_) fun h H => ?_
 ·cases hr.trans H.symm
  exact ⟨rfl, hB⟩
 obtain ⟨⟨h0_24, h1_25⟩, H⟩ := H
 refine makeOwn slt149 h0_24 h1_25 (fun g21 w22 P2 e23 => ?_)
 have O2 := P2.mono hB.size
 have hB := ethen hB e23
 refine buildOwn el3 ([x1] : List Int) (fun _ => by kernel_rfl) rfl (fun A26 w27 P3 e28 => ?_)
 have O2 := O2.ext e28
 have O3 := P3.mono hB.size
 have hB := ethen hB e28
 obtain ⟨J81, ⟨m132, hJ131⟩, hS82⟩ := H
 refine ⟨fun m_ z_ w_ => ∃ (xs75 : List Int) (xs78 : List Bool) (A76 : OA) (c77 : Nat), z_ = ((A76, xs75.length, c77), ()) ∧ J81 m_ (xs75, xs78, ()) ∧ Ext w w_ ∧ Own el3 w_ w.heap.size A76 c77 xs75 ∧ Own el4 w_ w.heap.size (some (bx g21)) ((wrap .i64 ((xs0.length : Int) + 1)).toNat) xs78 ∧ ((wrap .i64 ((xs0.length : Int) + 1)).toNat) = xs78.length, ⟨m132, ([x1] : List Int), (List.replicate ((wrap .i64 ((xs0.length : Int) + 1)).toNat) (default : Bool)), A26, 1, rfl, hJ131, hB, O3, O2, (by first | rfl | assumption | omega | (simp; done) | (simp; omega) | (simp; assumption))⟩, ?_⟩
 rintro m80 _ w84 ⟨xs75, xs78, A76, c77, rfl, hJ133, hB, O7, O2, hn79⟩
 have H := hS82 m80 _ hJ133
 clear hS82 hJ133
 try dsimp only at H ⊢
 refine brc H (fun h H => ?_) fun h H => ?_
 ·obtain ⟨⟨h0_88, h1_89⟩, H⟩ := H
  obtain ⟨a86, ha87, hat85⟩ := Row.at O7.row h0_88 h1_89
  refine ⟨h0_88, h1_89, a86, ha87, _, (hat85 0 _ rfl), ?_⟩
  obtain ⟨⟨hl90, hl91⟩, H⟩ := H
  refine and_assoc.1 ⟨⟨hl90, hl91⟩, ?_⟩
  rw [show (xs75.length - ((1 : Int).toNat)) = ((List.drop ((1 : Int).toNat) xs75)).length from by first | rfl | (simp; done) | (simp; omega)]
  have O8 := (O7.drop (l := ((1 : Int).toNat)) (by first | omega | (simp; done) | (simp; omega)))
  obtain ⟨⟨h0_95, h1_96⟩, H⟩ := H
  obtain ⟨a93, ha94, hat92⟩ := Row.at O2.row h0_95 h1_96
  refine ⟨h0_95, (by first | exact h1_96 | omega | (simp at h1_96 ⊢; omega)), a93, ha94, _, (hat92 0 _ rfl), ?_⟩
  refine brc H (fun h H => ?_) fun h H => ?_
  ·obtain ⟨m97, hm98, hJ99⟩ := H
   exact ⟨m97, hm98, _, xs78, _, _, rfl, hJ99, hB, O8, O2, (by first | rfl | assumption | omega | (simp; done) | (simp; omega) | (simp; assumption))⟩
  refine brc H (fun h H => ?_) fun h H => ?_
  ·obtain ⟨m100, hm101, hJ102⟩ := H
   exact ⟨m100, hm101, _, xs78, _, _, rfl, hJ102, hB, O8, O2, (by first | rfl | assumption | omega | (simp; done) | (simp; omega) | (simp; assumption))⟩
  refine brc H (fun h H => ?_) fun h H => ?_
  ·cases hr.trans H.symm
   exact ⟨rfl, hB⟩
  obtain ⟨⟨h0_106, h1_107⟩, H⟩ := H
  obtain ⟨a104, ha105, hat103⟩ := Row.at O2.row h0_106 h1_107
  refine ⟨h0_106, (by first | exact h1_107 | omega | (simp at h1_107 ⊢; omega)), a104, ha105, ?_⟩
  refine Own.stA O2 ha105 h0_106 h1_107 0 true (fun w108 P2 e109 hb110 => ?_)
  have O7_ := O7.chg e109 (((Own.apart2_type O7 O2 (by decide))).left ha105)
  have O8 := O8.chg e109 (((cutApart2 (Own.apart2_type O7 O2 (by decide)))).left ha105)
  have hB := echg hB e109 hb110
  obtain ⟨hp113, H⟩ := H
  obtain ⟨r111, hr112, H⟩ := callO H
  refine (spec_l07Next.con hp113 hr112 (R0.ext hB) hc0).mono ?_
  rintro _ w114 ⟨A116, c117, rfl, P9, e115⟩
  have O2 := P2.ext e115
  have O7 := O7_.ext e115
  have O8 := O8.ext e115
  have O9 := P9.mono hB.size
  have hB := ethen hB e115
  refine ⟨A116, r111.length, c117, rfl, ?_⟩
  obtain ⟨hl122, H⟩ := H
  refine appO slt24 O8 O9.row hB.size hl122 (fun A118 c119 w120 P8 e121 => ?_)
  have O2 := O2.app e121 (cutApart2 (Own.apart2_type O2 O7 (by decide)).symm).symm
  have hB := eapp hB e121 O8
  have O8 := P8
  obtain ⟨m123, hm124, hJ125⟩ := H
  exact ⟨m123, hm124, _, _, A118, c119, rfl, hJ125, hB, O8, O2, (by first | rfl | assumption | omega | (simp; done) | (simp; omega) | (simp; assumption))⟩
 cases hr.trans H.symm
 exact ⟨rfl, hB⟩
def spec_AftersOf.vc (A0 : OA) (n0 c0 : Nat) (x1 : Int) (w : World) (K : VK) : Prop :=
  Run Tryz.prog (Instr.buildSlice 24 0 #[]) w fun v21 w22 => ∃ (A23 : OA) (n24 c25 : Nat), v21 = .slice A23 n24 c25 ∧ Cl 242 #[(sv A0 n0 c0), (iv x1)] w22 fun v26 w27 => (∃ (b28 : Bool), v26 = (.bool b28) ∧ bcase (!b28) (K (sv A23 n24 c25) w27) (LoopT (σ := (OA × Nat × Nat) × Int × Unit) (fun z29 w30 next31 => bcase (decide (z29.2.1 ≤ ((n0 : Nat) : Int))) (Cl 260 #[(sv A0 n0 c0), (iv x1), (iv z29.2.1)] w30 fun v32 w33 => (∃ (b34 : Bool), v32 = (.bool b34) ∧ bcase b34 (Run Tryz.prog (Instr.buildSlice 24 1 #[(0, (iv z29.2.1))]) w33 fun v35 w36 => ∃ (A37 : OA) (n38 c39 : Nat), v35 = .slice A37 n38 c39 ∧ Run Tryz.prog (Builtin.append_ #[24, 24] 24 #[(sv z29.1.1 z29.1.2.1 z29.1.2.2), (sv A37 n38 c39)]) w36 fun v40 w41 => ∃ (A42 : OA) (n43 c44 : Nat), v40 = .slice A42 n43 c44 ∧ next31 ((A42, n43, c44), (wrap .i64 (z29.2.1 + 1)), ()) w41) (next31 ((z29.1.1, z29.1.2.1, z29.1.2.2), (wrap .i64 (z29.2.1 + 1)), ()) w33))) (K (sv z29.1.1 z29.1.2.1 z29.1.2.2) w30)) ((A23, n24, c25), 0, ()) w27))

def spec_AftersOf.ann : Ann := (.seq .l (.seq .l (.seq (.seq .l (.two (.seq .l .l) .l)) (.seq (.seq .l (.one (.loop [(5, .sl), (6, .int .i64)] (.seq (.seq .l (.two .l .l)) (.seq (.one (.seq .l (.two .l .l))) .l))))) (.seq .l .l)))))

theorem spec_AftersOf.con {xs0 : List D.Ins} {A0 : OA} {c0 : Nat} {x1 : Int} {r : List Int} {w : World} (hp : M.spec_AftersOf_pre xs0 x1) (hr : r = M.spec_AftersOf xs0 x1) (R0 : Row el84 w A0 xs0) (hc0 : xs0.length ≤ c0) :
    Cl 254 #[(sv A0 xs0.length c0), (iv x1)] w (fun v_ w_ => ∃ (A0_ : OA) (c0_ : Nat), v_ = (sv A0_ r.length c0_) ∧ Own el3 w_ w.heap.size A0_ c0_ r ∧ Ext w w_) := by
 have H := wp.spec_AftersOf.math xs0 x1 hp
 have hB := Ext.refl w
 refine begK mixed Tryz.f254 ann (vc A0 xs0.length c0 x1) ?_
 unfold vc
 unfold wp.spec_AftersOf at H
 refine buildOwn el3 ([] : List Int) (fun _ => by kernel_rfl) rfl (fun A21 w22 P2 e23 => ?_)
 have O2 := P2.mono hB.size
 have hB := ethen hB e23
 obtain ⟨hp26, H⟩ := H
 obtain ⟨r24, hr25, H⟩ := callO H
 refine (spec_ReachesExit.con hp26 hr25 (R0.ext hB) hc0).mono ?_
 rintro _ w27 ⟨rfl, e28⟩
 have O2 := O2.ext e28
 have hB := ethen hB e28
 refine ⟨r24, rfl, ?_⟩
 refine brc H (fun h H => ?_) fun h H => ?_
 ·cases hr.trans H.symm
  exact ⟨A21, 0, (by first | rfl | (simp; done) | (simp; omega) | (simp [*]; done)), (by first | exact O2 | (simp only [bC, wC, List.length_set]; exact O2)), hB⟩
 obtain ⟨J34, ⟨m61, hJ60⟩, hS35⟩ := H
 refine ⟨fun m_ z_ w_ => ∃ (xs29 : List Int) (i32 : Int) (A30 : OA) (c31 : Nat), z_ = ((A30, xs29.length, c31), i32, ()) ∧ J34 m_ (xs29, i32, ()) ∧ Ext w w_ ∧ Own el3 w_ w.heap.size A30 c31 xs29, ⟨m61, ([] : List Int), 0, A21, 0, rfl, hJ60, hB, O2⟩, ?_⟩
 rintro m33 _ w37 ⟨xs29, i32, A30, c31, rfl, hJ62, hB, O3⟩
 have H := hS35 m33 _ hJ62
 clear hS35 hJ62
 try dsimp only at H ⊢
 refine brc H (fun h H => ?_) fun h H => ?_
 ·obtain ⟨hp40, H⟩ := H
  obtain ⟨r38, hr39, H⟩ := callO H
  refine (spec_l08After.con hp40 hr39 (R0.ext hB) hc0).mono ?_
  rintro _ w41 ⟨rfl, e42⟩
  have O3 := O3.ext e42
  have hB := ethen hB e42
  refine ⟨r38, rfl, ?_⟩
  refine brc H (fun h H => ?_) fun h H => ?_
  ·refine buildOwn el3 ([i32] : List Int) (fun _ => by kernel_rfl) rfl (fun A43 w44 P4 e45 => ?_)
   have O3 := O3.ext e45
   have O4 := P4.mono hB.size
   have hB := ethen hB e45
   obtain ⟨hl50, H⟩ := H
   refine appO slt24 O3 O4.row hB.size hl50 (fun A46 c47 w48 P3 e49 => ?_)
   have hB := eapp hB e49 O3
   have O3 := P3
   obtain ⟨m51, hm52, hJ53⟩ := H
   exact ⟨m51, hm52, _, _, A46, c47, rfl, hJ53, hB, O3⟩
  obtain ⟨m54, hm55, hJ56⟩ := H
  exact ⟨m54, hm55, xs29, _, A30, c31, rfl, hJ56, hB, O3⟩
 cases hr.trans H.symm
 exact ⟨A30, c31, rfl, O3, hB⟩
def spec_l08First.vc (A0 : OA) (n0 c0 : Nat) (A1 : OA) (n1 c1 : Nat) (w : World) (K : VK) : Prop :=
  LoopT (σ := Int × Unit) (fun z21 w22 next23 => bcase (decide (z21.1 < ((n1 : Nat) : Int))) (LoopT (σ := Bool × Int × Unit) (fun z24 w25 next26 => bcase (decide (z24.2.1 < ((n1 : Nat) : Int))) ((∃ M27 : Nat → Prop, bcase z24.1 ((idx z21.1 n1 A1 fun a28 => ldIM M27 w25 (a28.add ((z21.1.toNat) * 1)) 0 fun n29 => (idx z24.2.1 n1 A1 fun a30 => ldIM M27 w25 (a30.add ((z24.2.1.toNat) * 1)) 0 fun n31 => Cl 260 #[(sv A0 n0 c0), (iv n29), (iv n31)] w25.drew fun v32 w33 => (∃ (b34 : Bool), v32 = (.bool b34) ∧ SameBut M27 w25 w33 ∧ next26 (b34, (wrap .i64 (z24.2.1 + 1)), ()) w33)))) (next26 (false, (wrap .i64 (z24.2.1 + 1)), ()) w25.drew))) (bcase z24.1 ((idx z21.1 n1 A1 fun a35 => ldI w25 ((a35.add ((z21.1.toNat) * 1)).add 0) fun n36 => K (iv n36) w25)) (next23 ((wrap .i64 (z21.1 + 1)), ()) w25))) (true, 0, ()) w22) (K (iv (-1)) w22)) (0, ()) w

def spec_l08First.ann : Ann := (.seq .l (.seq (.seq .l (.one (.loop [(5, .int .i64)] (.seq (.seq .l (.two .l .l)) (.seq (.one (.seq .l (.seq (.seq .l (.one (.loop [(6, .bool), (7, .int .i64)] (.seq (.seq .l (.two .l .l)) (.seq (.one .l) .l))))) (.seq .l (.two (.seq .l .l) .l))))) .l))))) (.seq .l .l)))

theorem spec_l08First.con {xs0 : List D.Ins} {A0 A1 : OA} {c0 c1 : Nat} {xs1 : List Int} {r : Int} {w : World} (hp : M.spec_l08First_pre xs0 xs1) (hr : r = M.spec_l08First xs0 xs1) (R0 : Row el84 w A0 xs0) (hc0 : xs0.length ≤ c0) (R1 : Row el3 w A1 xs1) (hc1 : xs1.length ≤ c1) :
    Cl 252 #[(sv A0 xs0.length c0), (sv A1 xs1.length c1)] w (fun v_ w_ => v_ = (iv r) ∧ Ext w w_) := by
 have H := wp.spec_l08First.math xs0 xs1 hp
 have hB := Ext.refl w
 refine begK mixed Tryz.f252 ann (vc A0 xs0.length c0 A1 xs1.length c1) ?_
 unfold vc
 unfold wp.spec_l08First at H
 obtain ⟨J23, ⟨m74, hJ73⟩, hS24⟩ := H
 refine ⟨fun m_ z_ w_ => ∃ (i21 : Int), z_ = (i21, ()) ∧ J23 m_ (i21, ()) ∧ Ext w w_, ⟨m74, 0, rfl, hJ73, hB⟩, ?_⟩
 rintro m22 _ w26 ⟨i21, rfl, hJ75, hB⟩
 have H := hS24 m22 _ hJ75
 clear hS24 hJ75
 try dsimp only at H ⊢
 refine brc H (fun h H => ?_) fun h H => ?_
 ·obtain ⟨J30, ⟨m69, hJ68⟩, hS31⟩ := H
  refine ⟨fun m_ z_ w_ => ∃ (b27 : Bool) (i28 : Int), z_ = (b27, i28, ()) ∧ J30 m_ (b27, i28, ()) ∧ Ext w w_, ⟨m69, true, 0, rfl, hJ68, hB⟩, ?_⟩
  rintro m29 _ w33 ⟨b27, i28, rfl, hJ70, hB⟩
  have H := hS31 m29 _ hJ70
  clear hS31 hJ70
  try dsimp only at H ⊢
  refine brc H (fun h H => ?_) fun h H => ?_
  ·refine ⟨(fun _ => False), ?_⟩
   refine brc H (fun h H => ?_) fun h H => ?_
   ·obtain ⟨⟨h0_38, h1_39⟩, H⟩ := H
    obtain ⟨a36, ha37, hat35⟩ := Row.at (R1.ext hB) h0_38 h1_39
    refine ⟨h0_38, h1_39, a36, ha37, _, ⟨(fun h_ => h_), (hat35 0 _ rfl)⟩, ?_⟩
    obtain ⟨⟨h0_43, h1_44⟩, H⟩ := H
    obtain ⟨a41, ha42, hat40⟩ := Row.at (R1.ext hB) h0_43 h1_44
    refine ⟨h0_43, h1_44, a41, ha42, _, ⟨(fun h_ => h_), (hat40 0 _ rfl)⟩, ?_⟩
    have hB := ethen hB (Ext.drew _)
    have hS34 := (Chg.refl (fun _ => False) w33).then (Ext.drew _)
    obtain ⟨hp47, H⟩ := H
    obtain ⟨r45, hr46, H⟩ := callO H
    refine (spec_l08After.con hp47 hr46 (R0.ext hB) hc0).mono ?_
    rintro _ w48 ⟨rfl, e49⟩
    have hB := ethen hB e49
    have hS34 := hS34.then e49
    refine ⟨r45, rfl, sameBut_chg hS34, ?_⟩
    obtain ⟨m50, hm51, hJ52⟩ := H
    exact ⟨m50, hm51, r45, _, rfl, hJ52, hB⟩
   have hB := ethen hB (Ext.drew _)
   obtain ⟨m53, hm54, hJ55⟩ := H
   exact ⟨m53, hm54, _, _, rfl, hJ55, hB⟩
  refine brc H (fun h H => ?_) fun h H => ?_
  ·obtain ⟨⟨h0_60, h1_61⟩, H⟩ := H
   obtain ⟨a58, ha59, hat57⟩ := Row.at (R1.ext hB) h0_60 h1_61
   refine ⟨h0_60, h1_61, a58, ha59, _, (hat57 0 _ rfl), ?_⟩
   cases hr.trans H.symm
   exact ⟨rfl, hB⟩
  obtain ⟨m62, hm63, hJ64⟩ := H
  exact ⟨m62, hm63, _, rfl, hJ64, hB⟩
 cases hr.trans H.symm
 exact ⟨rfl, hB⟩
def spec_FirstAfter.vc (A0 : OA) (n0 c0 : Nat) (x1 : Int) (w : World) (K : VK) : Prop :=
  Cl 254 #[(sv A0 n0 c0), (iv x1)] w fun v21 w22 => (∃ (A23 : OA) (n24 c25 : Nat), v21 = (sv A23 n24 c25) ∧ Cl 253 #[(sv A23 n24 c25), (iv x1)] w22 fun v26 w27 => (∃ (A28 : OA) (n29 c30 : Nat), v26 = (sv A28 n29 c30) ∧ Cl 252 #[(sv A0 n0 c0), (sv A28 n29 c30)] w27 fun v31 w32 => (∃ (n33 : Int), v31 = (iv n33) ∧ K (iv n33) w32)))

def spec_FirstAfter.ann : Ann := (.seq .l (.seq .l .l))

theorem spec_FirstAfter.con {xs0 : List D.Ins} {A0 : OA} {c0 : Nat} {x1 r : Int} {w : World} (hp : M.spec_FirstAfter_pre xs0 x1) (hr : r = M.spec_FirstAfter xs0 x1) (R0 : Row el84 w A0 xs0) (hc0 : xs0.length ≤ c0) :
    Cl 243 #[(sv A0 xs0.length c0), (iv x1)] w (fun v_ w_ => v_ = (iv r) ∧ Ext w w_) := by
 have H := wp.spec_FirstAfter.math xs0 x1 hp
 have hB := Ext.refl w
 refine begK mixed Tryz.f243 ann (vc A0 xs0.length c0 x1) ?_
 unfold vc
 unfold wp.spec_FirstAfter at H
 obtain ⟨hp23, H⟩ := H
 obtain ⟨r21, hr22, H⟩ := callO H
 refine (spec_AftersOf.con hp23 hr22 (R0.ext hB) hc0).mono ?_
 rintro _ w24 ⟨A26, c27, rfl, P2, e25⟩
 have O2 := P2.mono hB.size
 have hB := ethen hB e25
 refine ⟨A26, r21.length, c27, rfl, ?_⟩
 obtain ⟨hp30, H⟩ := H
 obtain ⟨r28, hr29, H⟩ := callO H
 refine (spec_l08Others.con hp30 hr29 O2.row O2.le).mono ?_
 rintro _ w31 ⟨A33, c34, rfl, P3, e32⟩
 have O3 := P3.mono hB.size
 have hB := ethen hB e32
 refine ⟨A33, r28.length, c34, rfl, ?_⟩
 obtain ⟨hp37, H⟩ := H
 obtain ⟨r35, hr36, H⟩ := callO H
 refine (spec_l08First.con hp37 hr36 (R0.ext hB) hc0 O3.row O3.le).mono ?_
 rintro _ w38 ⟨rfl, e39⟩
 have hB := ethen hB e39
 refine ⟨r35, rfl, ?_⟩
 cases hr.trans H.symm
 exact ⟨rfl, hB⟩
def spec_l09Join.vc (A0 : OA) (n0 c0 : Nat) (x1 : Int) (w : World) (K : VK) : Prop :=
  Cl 242 #[(sv A0 n0 c0), (iv (wrap .i64 (x1 + 1)))] w fun v21 w22 => (∃ (b23 : Bool), v21 = (.bool b23) ∧ bcase (!b23) (K (iv ((n0 : Nat) : Int)) w22) ((idx x1 n0 A0 fun a24 => ldI w22 (((a24.add ((x1.toNat) * 4)).add 2).add 0) fun n25 => Cl 242 #[(sv A0 n0 c0), (iv n25)] w22 fun v26 w27 => (∃ (b28 : Bool), v26 = (.bool b28) ∧ bcase (!b28) (K (iv ((n0 : Nat) : Int)) w27) (Cl 243 #[(sv A0 n0 c0), (iv x1)] w27 fun v29 w30 => (∃ (n31 : Int), v29 = (iv n31) ∧ K (iv n31) w30))))))

def spec_l09Join.ann : Ann := (.seq .l (.seq (.seq .l (.two (.seq .l .l) .l)) (.seq .l .l)))

theorem spec_l09Join.con {xs0 : List D.Ins} {A0 : OA} {c0 : Nat} {x1 r : Int} {w : World} (hp : M.spec_l09Join_pre xs0 x1) (hr : r = M.spec_l09Join xs0 x1) (R0 : Row el84 w A0 xs0) (hc0 : xs0.length ≤ c0) :
    Cl 222 #[(sv A0 xs0.length c0), (iv x1)] w (fun v_ w_ => v_ = (iv r) ∧ Ext w w_) := by
 have H := wp.spec_l09Join.math xs0 x1 hp
 have hB := Ext.refl w
 refine begK mixed Tryz.f222 ann (vc A0 xs0.length c0 x1) ?_
 unfold vc
 unfold wp.spec_l09Join at H
 obtain ⟨hp23, H⟩ := H
 obtain ⟨r21, hr22, H⟩ := callO H
 refine (spec_ReachesExit.con hp23 hr22 (R0.ext hB) hc0).mono ?_
 rintro _ w24 ⟨rfl, e25⟩
 have hB := ethen hB e25
 refine ⟨r21, rfl, ?_⟩
 refine brc H (fun h H => ?_) fun h H => ?_
 ·cases hr.trans H.symm
  exact ⟨rfl, hB⟩
 obtain ⟨⟨h0_29, h1_30⟩, H⟩ := H
 obtain ⟨a27, ha28, hat26⟩ := Row.at (R0.ext hB) h0_29 h1_30
 refine ⟨h0_29, h1_30, a27, ha28, _, (hat26 2 _ rfl), ?_⟩
 obtain ⟨hp33, H⟩ := H
 obtain ⟨r31, hr32, H⟩ := callO H
 refine (spec_ReachesExit.con hp33 hr32 (R0.ext hB) hc0).mono ?_
 rintro _ w34 ⟨rfl, e35⟩
 have hB := ethen hB e35
 refine ⟨r31, rfl, ?_⟩
 refine brc H (fun h H => ?_) fun h H => ?_
 ·cases hr.trans H.symm
  exact ⟨rfl, hB⟩
 obtain ⟨hp38, H⟩ := H
 obtain ⟨r36, hr37, H⟩ := callO H
 refine (spec_FirstAfter.con hp38 hr37 (R0.ext hB) hc0).mono ?_
 rintro _ w39 ⟨rfl, e40⟩
 have hB := ethen hB e40
 refine ⟨r36, rfl, ?_⟩
 cases hr.trans H.symm
 exact ⟨rfl, hB⟩
def spec_DropFrames.vc (A0 : OA) (n0 c0 : Nat) (x1_0 : Int) (A1_1 : OA) (n1_1 c1_1 : Nat) (A1_2 : OA) (n1_2 c1_2 : Nat) (w : World) (K : VK) : Prop :=
  newK w (.cells #[(iv x1_0), (sv A1_1 n1_1 c1_1), (sv A1_2 n1_2 c1_2)] 52) fun g21 w22 => newK w22 (.cells #[(iv 0), (sv none 0 0), (sv none 0 0)] 52) fun g23 w24 => ldI w24 ((bx g21).add 0) fun n25 => ldS w24 ((bx g21).add 1) fun A26 n27 c28 => ldS w24 ((bx g21).add 2) fun A29 n30 c31 => Cl 221 #[(.agg #[(iv n25), (sv A26 n27 c28), (sv A29 n30 c31)])] w24 fun v32 w33 => (∃ (n34 : Int), True ∧ ∃ (A35 : OA) (n36 c37 : Nat), True ∧ ∃ (A38 : OA) (n39 c40 : Nat), True ∧ v32 = (.agg #[(iv n34), (sv A35 n36 c37), (sv A38 n39 c40)]) ∧ newK w33 (.cells #[(iv 0), (sv none 0 0), (sv none 0 0)] 52) fun g41 w42 => stCells (bx g41) [(iv n34), (sv A35 n36 c37), (sv A38 n39 c40)] 0 w42 fun w43 => ldS w43 (((bx g41).add 1).add 0) fun A44 n45 c46 => LoopT (σ := Int × Unit) (fun z47 w48 next49 => bcase (decide (z47.1 ≥ 0)) (ldS w48 (((bx g41).add 1).add 0) fun A50 n51 c52 => (idx z47.1 n51 A50 fun a53 => ldI w48 ((a53.add ((z47.1.toNat) * 3)).add 0) fun n54 => ldI w48 ((a53.add ((z47.1.toNat) * 3)).add 1) fun n55 => ldI w48 ((a53.add ((z47.1.toNat) * 3)).add 2) fun n56 => newK w48 (.cells #[(iv 0), (iv 0), (iv 0)] 91) fun g57 w58 => stCells (bx g57) [(iv n54), (iv n55), (iv n56)] 0 w58 fun w59 => ldI w59 (((bx g57).add 0).add 0) fun n60 => ldI w59 (((bx g57).add 1).add 0) fun n61 => bcase (n60 != n61) (ldI w59 (((bx g57).add 0).add 0) fun n62 => bcase (n62 != ((n0 : Nat) : Int)) (ldI w59 ((bx g41).add 0) fun n63 => ldS w59 ((bx g41).add 1) fun A64 n65 c66 => ldS w59 ((bx g41).add 2) fun A67 n68 c69 => stCells (bx g23) [(iv n63), (sv A64 n65 c66), (sv A67 n68 c69)] 0 w59 fun w70 => ldI w70 ((bx g23).add 0) fun n71 => ldS w70 ((bx g23).add 1) fun A72 n73 c74 => ldS w70 ((bx g23).add 2) fun A75 n76 c77 => K (.agg #[(iv n71), (sv A72 n73 c74), (sv A75 n76 c77)]) w70) (ldS w59 (((bx g41).add 1).add 0) fun A78 n79 c80 => ((0 : Int) ≤ z47.1 ∧ z47.1 ≤ ((c80 : Nat) : Int) ∧ stCells ((bx g41).add 1) [(sv A78 (z47.1.toNat) c80)] 0 w59 fun w81 => next49 ((wrap .i64 (z47.1 - 1)), ()) w81))) (ldS w59 (((bx g41).add 1).add 0) fun A82 n83 c84 => ((0 : Int) ≤ z47.1 ∧ z47.1 ≤ ((c84 : Nat) : Int) ∧ stCells ((bx g41).add 1) [(sv A82 (z47.1.toNat) c84)] 0 w59 fun w85 => next49 ((wrap .i64 (z47.1 - 1)), ()) w85)))) (ldI w48 ((bx g41).add 0) fun n86 => ldS w48 ((bx g41).add 1) fun A87 n88 c89 => ldS w48 ((bx g41).add 2) fun A90 n91 c92 => stCells (bx g23) [(iv n86), (sv A87 n88 c89), (sv A90 n91 c92)] 0 w48 fun w93 => ldI w93 ((bx g23).add 0) fun n94 => ldS w93 ((bx g23).add 1) fun A95 n96 c97 => ldS w93 ((bx g23).add 2) fun A98 n99 c100 => K (.agg #[(iv n94), (sv A95 n96 c97), (sv A98 n99 c100)]) w93)) ((wrap .i64 (((n45 : Nat) : Int) - 1)), ()) w43)

def spec_DropFrames.ann : Ann := (.seq .l (.seq .l (.seq (.seq .l (.one (.loop [(6, .int .i64)] (.seq (.seq .l (.two .l .l)) (.seq (.one (.seq .l (.seq (.seq .l (.two .l .l)) .l))) .l))))) (.seq .l .l))))

theorem spec_DropFrames.con {xs0 : List D.Ins} {A0 A1_1 A1_2 : OA} {c0 c1_1 c1_2 : Nat} {s1 r : D.Warp} {w : World} (hp : M.spec_DropFrames_pre xs0 s1) (hr : r = M.spec_DropFrames xs0 s1) (R0 : Row el84 w A0 xs0) (hc0 : xs0.length ≤ c0) (R1_1 : Row el91 w A1_1 s1.Frames) (hc1_1 : s1.Frames.length ≤ c1_1) (R1_2 : Row el3 w A1_2 s1.Regs) (hc1_2 : s1.Regs.length ≤ c1_2) :
    Cl 202 #[(sv A0 xs0.length c0), (.agg (wC A1_1 c1_1 A1_2 c1_2 s1))] w (fun v_ w_ => ∃ (A0_ : OA) (c0_ : Nat) (A1_ : OA) (c1_ : Nat), v_ = (.agg (wC A0_ c0_ A1_ c1_ r)) ∧ Own el91 w_ w.heap.size A0_ c0_ r.Frames ∧ Own el3 w_ w.heap.size A1_ c1_ r.Regs ∧ Ext w w_) := by
 have H := wp.spec_DropFrames.math xs0 s1 hp
 refine begK mixed Tryz.f202 ann (vc A0 xs0.length c0 s1.Number A1_1 s1.Frames.length c1_1 A1_2 s1.Regs.length c1_2) ?_
 unfold vc
 unfold wp.spec_DropFrames at H
 refine newBlk (fun g4_ w21 L4 O4 e22 => ?_)
 have hB := ethen (Ext.refl w) e22
 refine newBlk (fun g5_ w23 L5 P5 e24 => ?_)
 have O4 := O4.ext e24
 have O5 := P5
 have L5 := Nat.le_trans hB.size L5
 have hB := ethen hB e24
 refine ⟨_, (O4.a 0), _, _, _, (O4.a 1), _, _, _, (O4.a 2), ?_⟩
 obtain ⟨hp27, H⟩ := H
 obtain ⟨r25, hr26, H⟩ := callO H
 refine (spec_l12Copy.con hp27 hr26 (R1_1.ext hB) hc1_1 (R1_2.ext hB) hc1_2).mono ?_
 rintro _ w28 ⟨A30, c31, A32, c33, rfl, P6, P7, e29⟩
 have N7_5 := P7.apart_old O5.lt
 have O5 := O5.ext e29
 have O6 := P6.mono hB.size
 have O7 := P7.mono hB.size
 have hB := ethen hB e29
 refine ⟨r25.Number, trivial, A30, r25.Frames.length, c31, trivial, A32, r25.Regs.length, c33, trivial, rfl, ?_⟩
 refine newBlk (fun g8_ w34 L8 P8 e35 => ?_)
 have N5_8 := O5.ne L8
 have N6_8 := O6.apart_new L8
 have N7_8 := O7.apart_new L8
 have O7 := O7.ext e35
 have O8 := P8
 have L8 := Nat.le_trans hB.size L8
 have hB := ethen hB e35
 refine stB O8 0 (wC A30 c31 A32 c33 r25) (fun w36 P8 e37 => ?_)
 have O5 := (O5.ext e35).chg e37 N5_8
 have O6 := (O6.ext e35).chg e37 N6_8
 have O7_ := O7.chg e37 N7_8
 have O7 := O7_
 have hB := echg hB e37 L8
 have O8 := P8
 refine ⟨_, _, _, (O8.a 1), ?_⟩
 obtain ⟨J87, ⟨m123, hJ122⟩, hS88⟩ := H
 refine ⟨fun m_ z_ w_ => ∃ (i81 i82 : Int) (xs83 : List D.Frame) (A84 : OA) (c85 : Nat), z_ = (i81, ()) ∧ J87 m_ (i81, i82, xs83, ()) ∧ Ext w w_ ∧ Blk w_ g8_ 52 #[(iv i82), (sv A84 xs83.length c85), (sv A32 r25.Regs.length c33)] ∧ Own el91 w_ w.heap.size A84 c85 xs83 ∧ Blk w_ g5_ 52 #[(iv 0), (sv none 0 0), (sv none 0 0)] ∧ Own el3 w_ w.heap.size A32 c33 r25.Regs, ⟨m123, (wrap .i64 ((r25.Frames.length : Int) - 1)), r25.Number, r25.Frames, A30, c31, rfl, hJ122, hB, O8, O6, O5, O7⟩, ?_⟩
 rintro m86 _ w90 ⟨i81, i82, xs83, A84, c85, rfl, hJ124, hB, O8, O13, O5, O7⟩
 have H := hS88 m86 _ hJ124
 clear hS88 hJ124
 try dsimp only at H ⊢
 refine brc H (fun h H => ?_) fun h H => ?_
 ·refine ⟨_, _, _, (O8.a 1), ?_⟩
  obtain ⟨⟨h0_94, h1_95⟩, H⟩ := H
  obtain ⟨a92, ha93, hat91⟩ := Row.at O13.row h0_94 h1_95
  refine ⟨h0_94, h1_95, a92, ha93, _, (hat91 0 _ rfl), _, (hat91 1 _ rfl), _, (hat91 2 _ rfl), ?_⟩
  refine newBlk (fun g14_ w96 L14 P14 e97 => ?_)
  have N5_14 := O5.ne L14
  have N7_14 := O7.apart_new L14
  have N8_14 := O8.ne L14
  have N13_14 := O13.apart_new L14
  have O5 := O5.ext e97
  have O7 := O7.ext e97
  have O13 := O13.ext e97
  have O14 := P14
  have L14 := Nat.le_trans hB.size L14
  have hB := ethen hB e97
  refine stBlk O14 (o := 0) (cs' := #[(iv ((rd xs83 i81).Pc)), (iv ((rd xs83 i81).Stop)), (iv ((rd xs83 i81).Mask))]) rfl rfl (Nat.le_of_ble_eq_true rfl) rfl (fun w98 O14 e99 => ?_)
  have O5_ := O5.chg e99 N5_14
  have O7_ := O7.chg e99 N7_14
  have O8 := (O8.ext e97).chg e99 N8_14
  have O13_ := O13.chg e99 N13_14
  have O5 := O5_
  have O7 := O7_
  have O13 := O13_
  have hB := echg hB e99 L14
  refine ⟨_, (O14.a 0), _, (O14.a 1), ?_⟩
  refine brc H (fun h H => ?_) fun h H => ?_
  ·refine ⟨_, (O14.a 0), ?_⟩
   refine brc H (fun h H => ?_) fun h H => ?_
   ·refine ⟨_, (O8.a 0), _, _, _, (O8.a 1), _, _, _, (O8.a 2), ?_⟩
    refine stB O5 0 #[(iv i82), (sv A84 xs83.length c85), (sv A32 r25.Regs.length c33)] (fun w100 P5 e101 => ?_)
    have O7 := O7.chg e101 N7_5
    have O13 := O13.chg e101 (O13.apart_type O5 (by decide))
    have hB := echg hB e101 L5
    have O5 := P5
    refine ⟨_, (O5.a 0), _, _, _, (O5.a 1), _, _, _, (O5.a 2), ?_⟩
    cases hr.trans H.symm
    exact ⟨A84, c85, A32, c33, rfl, O13, O7, hB⟩
   refine ⟨_, _, _, (O8.a 1), ?_⟩
   obtain ⟨⟨hh102, hh103⟩, H⟩ := H
   refine and_assoc.1 ⟨⟨hh102, Int.le_trans hh103 (Int.ofNat_le.2 O13.le)⟩, ?_⟩
   rw [show (i81.toNat) = ((List.take (i81.toNat) xs83)).length from by first | rfl | (simp; done) | (simp; omega)]
   refine stB O8 1 #[(iv i82), (sv A84 (((List.take (i81.toNat) xs83)).length) c85), (sv A32 r25.Regs.length c33)] (fun w104 P8 e105 => ?_)
   have O5 := O5.chg e105 N5_8
   have O7 := O7.chg e105 N7_8
   have O15 := ((O13.take (i81.toNat))).chg e105 (O13.apart_type O8 (by decide))
   have hB := echg hB e105 L8
   have O8 := P8
   obtain ⟨m106, hm107, hJ108⟩ := H
   exact ⟨m106, hm107, _, i82, _, A84, c85, rfl, hJ108, hB, O8, O15, O5, O7⟩
  refine ⟨_, _, _, (O8.a 1), ?_⟩
  obtain ⟨⟨hh110, hh111⟩, H⟩ := H
  refine and_assoc.1 ⟨⟨hh110, Int.le_trans hh111 (Int.ofNat_le.2 O13.le)⟩, ?_⟩
  rw [show (i81.toNat) = ((List.take (i81.toNat) xs83)).length from by first | rfl | (simp; done) | (simp; omega)]
  refine stB O8 1 #[(iv i82), (sv A84 (((List.take (i81.toNat) xs83)).length) c85), (sv A32 r25.Regs.length c33)] (fun w112 P8 e113 => ?_)
  have O5 := O5.chg e113 N5_8
  have O7 := O7.chg e113 N7_8
  have O16 := ((O13.take (i81.toNat))).chg e113 (O13.apart_type O8 (by decide))
  have hB := echg hB e113 L8
  have O8 := P8
  obtain ⟨m114, hm115, hJ116⟩ := H
  exact ⟨m114, hm115, _, i82, _, A84, c85, rfl, hJ116, hB, O8, O16, O5, O7⟩
 refine ⟨_, (O8.a 0), _, _, _, (O8.a 1), _, _, _, (O8.a 2), ?_⟩
 refine stB O5 0 #[(iv i82), (sv A84 xs83.length c85), (sv A32 r25.Regs.length c33)] (fun w118 P5 e119 => ?_)
 have O7 := O7.chg e119 N7_5
 have O13 := O13.chg e119 (O13.apart_type O5 (by decide))
 have hB := echg hB e119 L5
 have O5 := P5
 refine ⟨_, (O5.a 0), _, _, _, (O5.a 1), _, _, _, (O5.a 2), ?_⟩
 cases hr.trans H.symm
 exact ⟨A84, c85, A32, c33, rfl, O13, O7, hB⟩
def spec_l13Apply.vc (A0 : OA) (n0 c0 : Nat) (x1_0 : Int) (A1_1 : OA) (n1_1 c1_1 : Nat) (A1_2 : OA) (n1_2 c1_2 : Nat) (w : World) (K : VK) : Prop :=
  newK w (.cells #[(iv x1_0), (sv A1_1 n1_1 c1_1), (sv A1_2 n1_2 c1_2)] 52) fun g21 w22 => Run Tryz.prog (Instr.buildSlice 24 0 #[]) w22 fun v23 w24 => ∃ (A25 : OA) (n26 c27 : Nat), v23 = .slice A25 n26 c27 ∧ ldS w24 (((bx g21).add 2).add 0) fun A28 n29 c30 => Run Tryz.prog (Builtin.append_ #[24, 24] 24 #[(sv A25 n26 c27), (sv A28 n29 c30)]) w24 fun v31 w32 => ∃ (A33 : OA) (n34 c35 : Nat), v31 = .slice A33 n34 c35 ∧ ldS w32 (((bx g21).add 1).add 0) fun A36 n37 c38 => ldS w32 (((bx g21).add 1).add 0) fun A39 n40 c41 => (idx (wrap .i64 (((n40 : Nat) : Int) - 1)) n37 A36 fun a42 => ldI w32 ((a42.add (((wrap .i64 (((n40 : Nat) : Int) - 1)).toNat) * 3)).add 0) fun n43 => ldI w32 ((a42.add (((wrap .i64 (((n40 : Nat) : Int) - 1)).toNat) * 3)).add 1) fun n44 => ldI w32 ((a42.add (((wrap .i64 (((n40 : Nat) : Int) - 1)).toNat) * 3)).add 2) fun n45 => newK w32 (.cells #[(iv 0), (iv 0), (iv 0)] 91) fun g46 w47 => stCells (bx g46) [(iv n43), (iv n44), (iv n45)] 0 w47 fun w48 => LoopT (σ := Int × Unit) (fun z49 w50 next51 => bcase (decide (z49.1 < 8)) (ldI w50 (((bx g46).add 2).add 0) fun n52 => Cl 101 #[(iv n52), (iv z49.1)] w50 fun v53 w54 => (∃ (b55 : Bool), v53 = (.bool b55) ∧ bcase b55 ((∃ M56 : Nat → Prop, ldIM M56 w54 ((bx g46).add 0) 0 fun n57 => (idx n57 n0 A0 fun a58 => ldIM M56 w54 (a58.add ((n57.toNat) * 4)) 0 fun n59 => ldIM M56 w54 (a58.add ((n57.toNat) * 4)) 1 fun n60 => ldIM M56 w54 (a58.add ((n57.toNat) * 4)) 2 fun n61 => ldIM M56 w54 (a58.add ((n57.toNat) * 4)) 3 fun n62 => ldIM M56 w54 ((bx g21).add 0) 0 fun n63 => ldSM M56 w54 ((bx g21).add 2) 0 fun A64 n65 c66 => ((0 : Int) ≤ (wrap .i64 ((wrap .i64 (z49.1 + 1)) * 4)) ∧ (wrap .i64 ((wrap .i64 (z49.1 + 1)) * 4)) ≤ ((c66 : Nat) : Int) ∧ ((0 : Int) ≤ (wrap .i64 (z49.1 * 4)) ∧ (wrap .i64 (z49.1 * 4)) ≤ ((((wrap .i64 ((wrap .i64 (z49.1 + 1)) * 4)).toNat) : Nat) : Int) ∧ Cl 244 #[(.agg #[(iv n59), (iv n60), (iv n61), (iv n62)]), (iv (wrap .i64 ((wrap .i64 (n63 * 8)) + z49.1))), (sv (if c66 = ((wrap .i64 (z49.1 * 4)).toNat) then A64 else A64.map (·.add (((wrap .i64 (z49.1 * 4)).toNat) * szOf Tryz.prog 3))) (((wrap .i64 ((wrap .i64 (z49.1 + 1)) * 4)).toNat) - ((wrap .i64 (z49.1 * 4)).toNat)) (c66 - ((wrap .i64 (z49.1 * 4)).toNat)))] w54.drew fun v67 w68 => (∃ (A69 : OA) (n70 c71 : Nat), v67 = (sv A69 n70 c71) ∧ SameBut M56 w54 w68 ∧ LoopT (σ := Int × Unit) (fun z72 w73 next74 => bcase (decide (z72.1 < 4)) ((idx z72.1 n70 A69 fun a75 => ldI w73 ((a75.add ((z72.1.toNat) * 1)).add 0) fun n76 => (idx (wrap .i64 ((wrap .i64 (z49.1 * 4)) + z72.1)) n34 A33 fun a77 => stCells (a77.add (((wrap .i64 ((wrap .i64 (z49.1 * 4)) + z72.1)).toNat) * 1)) [(iv n76)] 0 w73 fun w78 => next74 ((wrap .i64 (z72.1 + 1)), ()) w78))) (next51 ((wrap .i64 (z49.1 + 1)), ()) w73)) (0, ()) w68)))))) (next51 ((wrap .i64 (z49.1 + 1)), ()) w54))) (K (sv A33 n34 c35) w50)) (0, ()) w48)

def spec_l13Apply.ann : Ann := (.seq .l (.seq .l (.seq .l (.seq (.seq .l (.one (.loop [(7, .int .i64)] (.seq (.seq .l (.two .l .l)) (.seq (.one (.seq .l (.two (.seq .l (.seq .l (.one (.loop [(9, .int .i64)] (.seq (.seq .l (.two .l .l)) (.seq (.one .l) .l)))))) .l))) .l))))) (.seq .l .l)))))

theorem spec_l13Apply.con {xs0 : List D.Ins} {A0 A1_1 A1_2 : OA} {c0 c1_1 c1_2 : Nat} {s1 : D.Warp} {r : List Int} {w : World} (hp : M.spec_l13Apply_pre xs0 s1) (hr : r = M.spec_l13Apply xs0 s1) (R0 : Row el84 w A0 xs0) (hc0 : xs0.length ≤ c0) (R1_1 : Row el91 w A1_1 s1.Frames) (hc1_1 : s1.Frames.length ≤ c1_1) (R1_2 : Row el3 w A1_2 s1.Regs) (hc1_2 : s1.Regs.length ≤ c1_2) :
    Cl 223 #[(sv A0 xs0.length c0), (.agg (wC A1_1 c1_1 A1_2 c1_2 s1))] w (fun v_ w_ => ∃ (A0_ : OA) (c0_ : Nat), v_ = (sv A0_ r.length c0_) ∧ Own el3 w_ w.heap.size A0_ c0_ r ∧ Ext w w_) := by
 have H := wp.spec_l13Apply.math xs0 s1 hp
 refine begK mixed Tryz.f223 ann (vc A0 xs0.length c0 s1.Number A1_1 s1.Frames.length c1_1 A1_2 s1.Regs.length c1_2) ?_
 unfold vc
 unfold wp.spec_l13Apply at H
 refine newBlk (fun g4_ w21 L4 O4 e22 => ?_)
 have hB := ethen (Ext.refl w) e22
 refine buildOwn el3 ([] : List Int) (fun _ => by kernel_rfl) rfl (fun A23 w24 P5 e25 => ?_)
 have N5_4 := P5.apart_old O4.lt
 have O4 := O4.ext e25
 have O5 := P5.mono hB.size
 have hB := ethen hB e25
 refine ⟨_, _, _, (O4.a 2), ?_⟩
 obtain ⟨hl30, H⟩ := H
 refine appO slt24 O5 (R1_2.ext hB) hB.size hl30 (fun A26 c27 w28 P5 e29 => ?_)
 have N5_4_ := Apart.app N5_4 e29 O4.lt
 have O4 := O4.app e29 N5_4
 have N5_4 := N5_4_
 have hB := eapp hB e29 O5
 have O5 := P5
 refine ⟨_, _, _, (O4.a 1), _, _, _, (O4.a 1), ?_⟩
 obtain ⟨⟨h0_34, h1_35⟩, H⟩ := H
 obtain ⟨a32, ha33, hat31⟩ := Row.at (R1_1.ext hB) h0_34 h1_35
 refine ⟨h0_34, h1_35, a32, ha33, _, (hat31 0 _ rfl), _, (hat31 1 _ rfl), _, (hat31 2 _ rfl), ?_⟩
 refine newSt #[(iv ((rd s1.Frames (wrap .i64 ((s1.Frames.length : Int) - 1))).Pc)), (iv ((rd s1.Frames (wrap .i64 ((s1.Frames.length : Int) - 1))).Stop)), (iv ((rd s1.Frames (wrap .i64 ((s1.Frames.length : Int) - 1))).Mask))] (fun g6_ w38 L6 O6 e39 => ?_)
 have N5_6 := O5.apart_new L6
 have O4 := O4.ext e39
 have O5 := O5.ext e39
 have hB := ethen hB e39
 obtain ⟨J115, ⟨m199, hJ198⟩, hS116⟩ := H
 refine ⟨fun m_ z_ w_ => ∃ (i111 : Int) (xs112 : List Int), z_ = (i111, ()) ∧ J115 m_ (i111, xs112, ()) ∧ Ext w w_ ∧ Own el3 w_ w.heap.size A26 c27 xs112 ∧ ((([] : List Int) ++ s1.Regs)).length = xs112.length ∧ Blk w_ g4_ 52 (wC A1_1 c1_1 A1_2 c1_2 s1) ∧ Blk w_ g6_ 91 #[(iv ((rd s1.Frames (wrap .i64 ((s1.Frames.length : Int) - 1))).Pc)), (iv ((rd s1.Frames (wrap .i64 ((s1.Frames.length : Int) - 1))).Stop)), (iv ((rd s1.Frames (wrap .i64 ((s1.Frames.length : Int) - 1))).Mask))], ⟨m199, 0, (([] : List Int) ++ s1.Regs), rfl, hJ198, hB, O5, (by first | rfl | assumption | omega | (simp; done) | (simp; omega) | (simp; assumption)), O4, O6⟩, ?_⟩
 rintro m114 _ w118 ⟨i111, xs112, rfl, hJ200, hB, O5, hn113, O4, O6⟩
 have H := hS116 m114 _ hJ200
 clear hS116 hJ200
 try dsimp only at H ⊢
 refine brc H (fun h H => ?_) fun h H => ?_
 ·refine ⟨_, (O6.a 2), ?_⟩
  obtain ⟨r119, hr120, H⟩ := callO H
  refine (spec_HasLane.con hr120 ).mono ?_
  rintro _ w122 ⟨rfl, e123⟩
  have O4 := O4.ext e123
  have O5 := O5.ext e123
  have O6 := O6.ext e123
  have hB := ethen hB e123
  refine ⟨r119, rfl, ?_⟩
  refine brc H (fun h H => ?_) fun h H => ?_
  ·refine ⟨(fun _ => False), _, noM (O6.a 0), ?_⟩
   obtain ⟨⟨h0_128, h1_129⟩, H⟩ := H
   obtain ⟨a126, ha127, hat125⟩ := Row.at (R0.ext hB) h0_128 h1_129
   refine ⟨h0_128, h1_129, a126, ha127, _, ⟨(fun h_ => h_), (hat125 0 _ rfl)⟩, _, ⟨(fun h_ => h_), (hat125 1 _ rfl)⟩, _, ⟨(fun h_ => h_), (hat125 2 _ rfl)⟩, _, ⟨(fun h_ => h_), (hat125 3 _ rfl)⟩, _, noM (O4.a 0), _, _, _, noM (O4.a 2), ?_⟩
   obtain ⟨⟨hh130, hh131, hl132, hl133⟩, H⟩ := H
   refine and_assoc.1 ⟨⟨hh130, Int.le_trans hh131 (Int.ofNat_le.2 hc1_2)⟩, ?_⟩
   refine and_assoc.1 ⟨⟨hl132, (by omega)⟩, ?_⟩
   rw [show (((wrap .i64 ((wrap .i64 (i111 + 1)) * 4)).toNat) - ((wrap .i64 (i111 * 4)).toNat)) = ((List.drop ((wrap .i64 (i111 * 4)).toNat) (List.take ((wrap .i64 ((wrap .i64 (i111 + 1)) * 4)).toNat) s1.Regs))).length from by first | rfl | (simp; done) | (simp; omega)]
   have R9_ := ((R1_2.take ((wrap .i64 ((wrap .i64 (i111 + 1)) * 4)).toNat)).drop (l := ((wrap .i64 (i111 * 4)).toNat)) (m := c1_2) (by have := hc1_2; simp; omega))
   have le9_ : ((List.drop ((wrap .i64 (i111 * 4)).toNat) (List.take ((wrap .i64 ((wrap .i64 (i111 + 1)) * 4)).toNat) s1.Regs))).length ≤ (c1_2 - ((wrap .i64 (i111 * 4)).toNat)) := by have := hc1_2; simp; omega
   have O4 := O4.ext (Ext.drew _)
   have O5 := O5.ext (Ext.drew _)
   have O6 := O6.ext (Ext.drew _)
   have hB := ethen hB (Ext.drew _)
   have hS124 := (Chg.refl (fun _ => False) w122).then (Ext.drew _)
   obtain ⟨hp136, H⟩ := H
   obtain ⟨r134, hr135, H⟩ := callO H
   refine (spec_l10Apply.con hp136 hr135 (R9_.ext hB) le9_).mono ?_
   rintro _ w137 ⟨A139, c140, rfl, P10, e138⟩
   have N5_10 := aN O5 P10
   have O4 := O4.ext e138
   have O5 := O5.ext e138
   have O6 := O6.ext e138
   have O10 := P10.mono hB.size
   have hB := ethen hB e138
   have hS124 := hS124.then e138
   refine ⟨A139, r134.length, c140, rfl, sameBut_chg hS124, ?_⟩
   obtain ⟨J164, ⟨m190, hJ189⟩, hS165⟩ := H
   refine ⟨fun m_ z_ w_ => ∃ (i160 : Int) (xs161 : List Int), z_ = (i160, ()) ∧ J164 m_ (i160, xs161, ()) ∧ Ext w w_ ∧ Own el3 w_ w.heap.size A26 c27 xs161 ∧ ((([] : List Int) ++ s1.Regs)).length = xs161.length ∧ Blk w_ g4_ 52 (wC A1_1 c1_1 A1_2 c1_2 s1) ∧ Blk w_ g6_ 91 #[(iv ((rd s1.Frames (wrap .i64 ((s1.Frames.length : Int) - 1))).Pc)), (iv ((rd s1.Frames (wrap .i64 ((s1.Frames.length : Int) - 1))).Stop)), (iv ((rd s1.Frames (wrap .i64 ((s1.Frames.length : Int) - 1))).Mask))] ∧ Own el3 w_ w.heap.size A139 c140 r134, ⟨m190, 0, xs112, rfl, hJ189, hB, O5, (by first | rfl | assumption | omega | (simp; done) | (simp; omega) | (simp; assumption)), O4, O6, O10⟩, ?_⟩
   rintro m163 _ w167 ⟨i160, xs161, rfl, hJ191, hB, O5, hn162, O4, O6, O10⟩
   have H := hS165 m163 _ hJ191
   clear hS165 hJ191
   try dsimp only at H ⊢
   refine brc H (fun h H => ?_) fun h H => ?_
   ·obtain ⟨⟨h0_171, h1_172⟩, H⟩ := H
    obtain ⟨a169, ha170, hat168⟩ := Row.at O10.row h0_171 h1_172
    refine ⟨h0_171, h1_172, a169, ha170, _, (hat168 0 _ rfl), ?_⟩
    obtain ⟨⟨h0_176, h1_177⟩, H⟩ := H
    obtain ⟨a174, ha175, hat173⟩ := Row.at O5.row h0_176 h1_177
    refine ⟨h0_176, (by first | exact h1_177 | omega | (simp at h1_177 ⊢; omega)), a174, ha175, ?_⟩
    refine Own.stA O5 ha175 h0_176 h1_177 0 (rd r134 i160) (fun w178 O5 e179 hb180 => ?_)
    have O4 := O4.chg e179 (fun h_ => (N5_4) _ ha175 h_.symm)
    have O6 := O6.chg e179 (fun h_ => (N5_6) _ ha175 h_.symm)
    have O10 := O10.chg e179 (((N5_10).symm).left ha175)
    have hB := echg hB e179 hb180
    obtain ⟨m181, hm182, hJ183⟩ := H
    exact ⟨m181, hm182, _, _, rfl, hJ183, hB, O5, (by first | rfl | assumption | omega | (simp; done) | (simp; omega) | (simp; assumption)), O4, O6, O10⟩
   obtain ⟨m184, hm185, hJ186⟩ := H
   exact ⟨m184, hm185, _, _, rfl, hJ186, hB, O5, (by first | rfl | assumption | omega | (simp; done) | (simp; omega) | (simp; assumption)), O4, O6⟩
  obtain ⟨m192, hm193, hJ194⟩ := H
  exact ⟨m192, hm193, _, _, rfl, hJ194, hB, O5, (by first | rfl | assumption | omega | (simp; done) | (simp; omega) | (simp; assumption)), O4, O6⟩
 cases hr.trans H.symm
 exact ⟨A26, c27, (by first | rfl | (rw [hn113]; done) | (simp; done) | (simp; omega) | (simp [*]; done)), (by first | exact O5 | (simp only [bC, wC, List.length_set]; exact O5) | (rw [← hn113]; exact O5)), hB⟩
def spec_l13Step.vc (A0 : OA) (n0 c0 : Nat) (x1_0 : Int) (A1_1 : OA) (n1_1 c1_1 : Nat) (A1_2 : OA) (n1_2 c1_2 : Nat) (w : World) (K : VK) : Prop :=
  newK w (.cells #[(iv x1_0), (sv A1_1 n1_1 c1_1), (sv A1_2 n1_2 c1_2)] 52) fun g21 w22 => newK w22 (.cells #[(iv 0), (sv none 0 0), (sv none 0 0)] 52) fun g23 w24 => ldI w24 ((bx g21).add 0) fun n25 => ldS w24 ((bx g21).add 1) fun A26 n27 c28 => ldS w24 ((bx g21).add 2) fun A29 n30 c31 => Cl 221 #[(.agg #[(iv n25), (sv A26 n27 c28), (sv A29 n30 c31)])] w24 fun v32 w33 => (∃ (n34 : Int), True ∧ ∃ (A35 : OA) (n36 c37 : Nat), True ∧ ∃ (A38 : OA) (n39 c40 : Nat), True ∧ v32 = (.agg #[(iv n34), (sv A35 n36 c37), (sv A38 n39 c40)]) ∧ newK w33 (.cells #[(iv 0), (sv none 0 0), (sv none 0 0)] 52) fun g41 w42 => stCells (bx g41) [(iv n34), (sv A35 n36 c37), (sv A38 n39 c40)] 0 w42 fun w43 => ldS w43 (((bx g21).add 1).add 0) fun A44 n45 c46 => ldS w43 (((bx g21).add 1).add 0) fun A47 n48 c49 => (idx (wrap .i64 (((n45 : Nat) : Int) - 1)) n48 A47 fun a50 => ldI w43 ((a50.add (((wrap .i64 (((n45 : Nat) : Int) - 1)).toNat) * 3)).add 0) fun n51 => ldI w43 ((a50.add (((wrap .i64 (((n45 : Nat) : Int) - 1)).toNat) * 3)).add 1) fun n52 => ldI w43 ((a50.add (((wrap .i64 (((n45 : Nat) : Int) - 1)).toNat) * 3)).add 2) fun n53 => newK w43 (.cells #[(iv 0), (iv 0), (iv 0)] 91) fun g54 w55 => stCells (bx g54) [(iv n51), (iv n52), (iv n53)] 0 w55 fun w56 => ldI w56 (((bx g54).add 0).add 0) fun n57 => (idx n57 n0 A0 fun a58 => ldI w56 ((a58.add ((n57.toNat) * 4)).add 0) fun n59 => ldI w56 ((a58.add ((n57.toNat) * 4)).add 1) fun n60 => ldI w56 ((a58.add ((n57.toNat) * 4)).add 2) fun n61 => ldI w56 ((a58.add ((n57.toNat) * 4)).add 3) fun n62 => newK w56 (.cells #[(iv 0), (iv 0), (iv 0), (iv 0)] 84) fun g63 w64 => stCells (bx g63) [(iv n59), (iv n60), (iv n61), (iv n62)] 0 w64 fun w65 => ldI w65 ((bx g21).add 0) fun n66 => ldS w65 ((bx g21).add 1) fun A67 n68 c69 => ldS w65 ((bx g21).add 2) fun A70 n71 c72 => Cl 169 #[(sv A0 n0 c0), (.agg #[(iv n66), (sv A67 n68 c69), (sv A70 n71 c72)])] w65 fun v73 w74 => (∃ (b75 : Bool), v73 = (.bool b75) ∧ bcase b75 (ldI w74 ((bx g21).add 0) fun n76 => ldS w74 ((bx g21).add 1) fun A77 n78 c79 => ldS w74 ((bx g21).add 2) fun A80 n81 c82 => ldI w74 (((bx g63).add 1).add 0) fun n83 => Cl 205 #[(.agg #[(iv n76), (sv A77 n78 c79), (sv A80 n81 c82)]), (iv n83)] w74 fun v84 w85 => (∃ (n86 : Int), v84 = (iv n86) ∧ ldI w85 (((bx g54).add 0).add 0) fun n87 => Cl 222 #[(sv A0 n0 c0), (iv n87)] w85 fun v88 w89 => (∃ (n90 : Int), v88 = (iv n90) ∧ ldS w89 (((bx g41).add 1).add 0) fun A91 n92 c93 => (idx (wrap .i64 (((n45 : Nat) : Int) - 1)) n92 A91 fun a94 => stCells ((a94.add (((wrap .i64 (((n45 : Nat) : Int) - 1)).toNat) * 3)).add 0) [(iv n90)] 0 w89 fun w95 => ldS w95 (((bx g41).add 1).add 0) fun A96 n97 c98 => ldI w95 (((bx g54).add 0).add 0) fun n99 => ldI w95 (((bx g54).add 2).add 0) fun n100 => ldI w95 (((bx g63).add 2).add 0) fun n101 => Run Tryz.prog (Instr.buildSlice 50 2 #[(0, (.agg #[(iv (wrap .i64 (n99 + 1))), (iv n90), (iv (wrap .i64 (n100 - n86)))])), (1, (.agg #[(iv n101), (iv n90), (iv n86)]))]) w95 fun v102 w103 => ∃ (A104 : OA) (n105 c106 : Nat), v102 = .slice A104 n105 c106 ∧ Run Tryz.prog (Builtin.append_ #[50, 50] 50 #[(sv A96 n97 c98), (sv A104 n105 c106)]) w103 fun v107 w108 => ∃ (A109 : OA) (n110 c111 : Nat), v107 = .slice A109 n110 c111 ∧ stCells ((bx g41).add 1) [(sv A109 n110 c111)] 0 w108 fun w112 => ldI w112 ((bx g41).add 0) fun n113 => ldS w112 ((bx g41).add 1) fun A114 n115 c116 => ldS w112 ((bx g41).add 2) fun A117 n118 c119 => Cl 202 #[(sv A0 n0 c0), (.agg #[(iv n113), (sv A114 n115 c116), (sv A117 n118 c119)])] w112 fun v120 w121 => (∃ (n122 : Int), True ∧ ∃ (A123 : OA) (n124 c125 : Nat), True ∧ ∃ (A126 : OA) (n127 c128 : Nat), True ∧ v120 = (.agg #[(iv n122), (sv A123 n124 c125), (sv A126 n127 c128)]) ∧ stCells (bx g23) [(iv n122), (sv A123 n124 c125), (sv A126 n127 c128)] 0 w121 fun w129 => ldI w129 ((bx g23).add 0) fun n130 => ldS w129 ((bx g23).add 1) fun A131 n132 c133 => ldS w129 ((bx g23).add 2) fun A134 n135 c136 => K (.agg #[(iv n130), (sv A131 n132 c133), (sv A134 n135 c136)]) w129))))) (ldI w74 ((bx g21).add 0) fun n137 => ldS w74 ((bx g21).add 1) fun A138 n139 c140 => ldS w74 ((bx g21).add 2) fun A141 n142 c143 => Cl 223 #[(sv A0 n0 c0), (.agg #[(iv n137), (sv A138 n139 c140), (sv A141 n142 c143)])] w74 fun v144 w145 => (∃ (A146 : OA) (n147 c148 : Nat), v144 = (sv A146 n147 c148) ∧ stCells ((bx g41).add 2) [(sv A146 n147 c148)] 0 w145 fun w149 => ldI w149 (((bx g63).add 0).add 0) fun n150 => bcase (n150 == 12) (ldS w149 (((bx g41).add 1).add 0) fun A151 n152 c153 => (idx (wrap .i64 (((n45 : Nat) : Int) - 1)) n152 A151 fun a154 => stCells ((a154.add (((wrap .i64 (((n45 : Nat) : Int) - 1)).toNat) * 3)).add 0) [(iv ((n0 : Nat) : Int))] 0 w149 fun w155 => ldI w155 ((bx g41).add 0) fun n156 => ldS w155 ((bx g41).add 1) fun A157 n158 c159 => ldS w155 ((bx g41).add 2) fun A160 n161 c162 => Cl 202 #[(sv A0 n0 c0), (.agg #[(iv n156), (sv A157 n158 c159), (sv A160 n161 c162)])] w155 fun v163 w164 => (∃ (n165 : Int), True ∧ ∃ (A166 : OA) (n167 c168 : Nat), True ∧ ∃ (A169 : OA) (n170 c171 : Nat), True ∧ v163 = (.agg #[(iv n165), (sv A166 n167 c168), (sv A169 n170 c171)]) ∧ stCells (bx g23) [(iv n165), (sv A166 n167 c168), (sv A169 n170 c171)] 0 w164 fun w172 => ldI w172 ((bx g23).add 0) fun n173 => ldS w172 ((bx g23).add 1) fun A174 n175 c176 => ldS w172 ((bx g23).add 2) fun A177 n178 c179 => K (.agg #[(iv n173), (sv A174 n175 c176), (sv A177 n178 c179)]) w172))) (bcase (n150 == 11) (ldS w149 (((bx g41).add 1).add 0) fun A180 n181 c182 => ldI w149 (((bx g63).add 2).add 0) fun n183 => (idx (wrap .i64 (((n45 : Nat) : Int) - 1)) n181 A180 fun a184 => stCells ((a184.add (((wrap .i64 (((n45 : Nat) : Int) - 1)).toNat) * 3)).add 0) [(iv n183)] 0 w149 fun w185 => ldI w185 ((bx g41).add 0) fun n186 => ldS w185 ((bx g41).add 1) fun A187 n188 c189 => ldS w185 ((bx g41).add 2) fun A190 n191 c192 => Cl 202 #[(sv A0 n0 c0), (.agg #[(iv n186), (sv A187 n188 c189), (sv A190 n191 c192)])] w185 fun v193 w194 => (∃ (n195 : Int), True ∧ ∃ (A196 : OA) (n197 c198 : Nat), True ∧ ∃ (A199 : OA) (n200 c201 : Nat), True ∧ v193 = (.agg #[(iv n195), (sv A196 n197 c198), (sv A199 n200 c201)]) ∧ stCells (bx g23) [(iv n195), (sv A196 n197 c198), (sv A199 n200 c201)] 0 w194 fun w202 => ldI w202 ((bx g23).add 0) fun n203 => ldS w202 ((bx g23).add 1) fun A204 n205 c206 => ldS w202 ((bx g23).add 2) fun A207 n208 c209 => K (.agg #[(iv n203), (sv A204 n205 c206), (sv A207 n208 c209)]) w202))) (ldS w149 (((bx g41).add 1).add 0) fun A210 n211 c212 => ldI w149 (((bx g54).add 0).add 0) fun n213 => (idx (wrap .i64 (((n45 : Nat) : Int) - 1)) n211 A210 fun a214 => stCells ((a214.add (((wrap .i64 (((n45 : Nat) : Int) - 1)).toNat) * 3)).add 0) [(iv (wrap .i64 (n213 + 1)))] 0 w149 fun w215 => JoinT (σ := Bool × Unit) (fun J216 => (∃ M217 : Nat → Prop, ldIM M217 w215 ((bx g63).add 0) 0 fun n218 => bcase (n218 == 10) (ldIM M217 w215 (bx g21) 0 fun n219 => ldSM M217 w215 (bx g21) 1 fun A220 n221 c222 => ldSM M217 w215 (bx g21) 2 fun A223 n224 c225 => ldIM M217 w215 ((bx g63).add 1) 0 fun n226 => ldIM M217 w215 ((bx g54).add 2) 0 fun n227 => Cl 205 #[(.agg #[(iv n219), (sv A220 n221 c222), (sv A223 n224 c225)]), (iv n226)] w215.drew fun v228 w229 => (∃ (n230 : Int), v228 = (iv n230) ∧ SameBut M217 w215 w229 ∧ J216 ((n230 == n227), ()) w229)) (J216 (false, ()) w215.drew))) fun z231 w232 => bcase z231.1 (ldS w232 (((bx g41).add 1).add 0) fun A233 n234 c235 => ldI w232 (((bx g63).add 2).add 0) fun n236 => (idx (wrap .i64 (((n45 : Nat) : Int) - 1)) n234 A233 fun a237 => stCells ((a237.add (((wrap .i64 (((n45 : Nat) : Int) - 1)).toNat) * 3)).add 0) [(iv n236)] 0 w232 fun w238 => ldI w238 ((bx g41).add 0) fun n239 => ldS w238 ((bx g41).add 1) fun A240 n241 c242 => ldS w238 ((bx g41).add 2) fun A243 n244 c245 => Cl 202 #[(sv A0 n0 c0), (.agg #[(iv n239), (sv A240 n241 c242), (sv A243 n244 c245)])] w238 fun v246 w247 => (∃ (n248 : Int), True ∧ ∃ (A249 : OA) (n250 c251 : Nat), True ∧ ∃ (A252 : OA) (n253 c254 : Nat), True ∧ v246 = (.agg #[(iv n248), (sv A249 n250 c251), (sv A252 n253 c254)]) ∧ stCells (bx g23) [(iv n248), (sv A249 n250 c251), (sv A252 n253 c254)] 0 w247 fun w255 => ldI w255 ((bx g23).add 0) fun n256 => ldS w255 ((bx g23).add 1) fun A257 n258 c259 => ldS w255 ((bx g23).add 2) fun A260 n261 c262 => K (.agg #[(iv n256), (sv A257 n258 c259), (sv A260 n261 c262)]) w255))) (ldI w232 ((bx g41).add 0) fun n263 => ldS w232 ((bx g41).add 1) fun A264 n265 c266 => ldS w232 ((bx g41).add 2) fun A267 n268 c269 => Cl 202 #[(sv A0 n0 c0), (.agg #[(iv n263), (sv A264 n265 c266), (sv A267 n268 c269)])] w232 fun v270 w271 => (∃ (n272 : Int), True ∧ ∃ (A273 : OA) (n274 c275 : Nat), True ∧ ∃ (A276 : OA) (n277 c278 : Nat), True ∧ v270 = (.agg #[(iv n272), (sv A273 n274 c275), (sv A276 n277 c278)]) ∧ stCells (bx g23) [(iv n272), (sv A273 n274 c275), (sv A276 n277 c278)] 0 w271 fun w279 => ldI w279 ((bx g23).add 0) fun n280 => ldS w279 ((bx g23).add 1) fun A281 n282 c283 => ldS w279 ((bx g23).add 2) fun A284 n285 c286 => K (.agg #[(iv n280), (sv A281 n282 c283), (sv A284 n285 c286)]) w279)))))))))))

def spec_l13Step.ann : Ann := (.seq .l (.seq .l (.seq .l (.seq .l (.seq .l (.seq (.seq .l (.two (.seq .l (.seq .l (.seq .l (.seq .l (.seq .l .l))))) .l)) (.seq .l (.seq (.seq .l (.one (.seq .l (.two .l (.seq .l (.two .l (.seq .l (.cut [(91, .bool)] .l (.two .l .l))))))))) (.seq .l .l)))))))))

theorem spec_l13Step.con {xs0 : List D.Ins} {A0 A1_1 A1_2 : OA} {c0 c1_1 c1_2 : Nat} {s1 r : D.Warp} {w : World} (hp : M.spec_l13Step_pre xs0 s1) (hr : r = M.spec_l13Step xs0 s1) (R0 : Row el84 w A0 xs0) (hc0 : xs0.length ≤ c0) (R1_1 : Row el91 w A1_1 s1.Frames) (hc1_1 : s1.Frames.length ≤ c1_1) (R1_2 : Row el3 w A1_2 s1.Regs) (hc1_2 : s1.Regs.length ≤ c1_2) :
    Cl 200 #[(sv A0 xs0.length c0), (.agg (wC A1_1 c1_1 A1_2 c1_2 s1))] w (fun v_ w_ => ∃ (A0_ : OA) (c0_ : Nat) (A1_ : OA) (c1_ : Nat), v_ = (.agg (wC A0_ c0_ A1_ c1_ r)) ∧ Own el91 w_ w.heap.size A0_ c0_ r.Frames ∧ Own el3 w_ w.heap.size A1_ c1_ r.Regs ∧ Ext w w_) := by
 have H := wp.spec_l13Step.math xs0 s1 hp
 refine begK mixed Tryz.f200 ann (vc A0 xs0.length c0 s1.Number A1_1 s1.Frames.length c1_1 A1_2 s1.Regs.length c1_2) ?_
 unfold vc
 unfold wp.spec_l13Step at H
 refine newBlk (fun g4_ w21 L4 O4 e22 => ?_)
 have hB := ethen (Ext.refl w) e22
 refine newBlk (fun g5_ w23 L5 P5 e24 => ?_)
 have O4 := O4.ext e24
 have O5 := P5
 have L5 := Nat.le_trans hB.size L5
 have hB := ethen hB e24
 refine ⟨_, (O4.a 0), _, _, _, (O4.a 1), _, _, _, (O4.a 2), ?_⟩
 obtain ⟨hp27, H⟩ := H
 obtain ⟨r25, hr26, H⟩ := callO H
 refine (spec_l12Copy.con hp27 hr26 (R1_1.ext hB) hc1_1 (R1_2.ext hB) hc1_2).mono ?_
 rintro _ w28 ⟨A30, c31, A32, c33, rfl, P6, P7, e29⟩
 have N6_4 := P6.apart_old O4.lt
 have N6_5 := P6.apart_old O5.lt
 have O4 := O4.ext e29
 have O5 := O5.ext e29
 have O6 := P6.mono hB.size
 have O7 := P7.mono hB.size
 have hB := ethen hB e29
 refine ⟨r25.Number, trivial, A30, r25.Frames.length, c31, trivial, A32, r25.Regs.length, c33, trivial, rfl, ?_⟩
 refine newBlk (fun g8_ w34 L8 P8 e35 => ?_)
 have N4_8 := O4.ne L8
 have N5_8 := O5.ne L8
 have N6_8 := O6.apart_new L8
 have N7_8 := O7.apart_new L8
 have O4 := O4.ext e35
 have O5 := O5.ext e35
 have O6 := O6.ext e35
 have O7 := O7.ext e35
 have O8 := P8
 have L8 := Nat.le_trans hB.size L8
 have hB := ethen hB e35
 refine stB O8 0 (wC A30 c31 A32 c33 r25) (fun w36 P8 e37 => ?_)
 have O4_ := O4.chg e37 N4_8
 have O5_ := O5.chg e37 N5_8
 have O6_ := O6.chg e37 N6_8
 have O7_ := O7.chg e37 N7_8
 have O4 := O4_
 have O5 := O5_
 have O6 := O6_
 have O7 := O7_
 have hB := echg hB e37 L8
 have O8 := P8
 refine ⟨_, _, _, (O4.a 1), _, _, _, (O4.a 1), ?_⟩
 obtain ⟨⟨h0_41, h1_42⟩, H⟩ := H
 obtain ⟨a39, ha40, hat38⟩ := Row.at (R1_1.ext hB) h0_41 h1_42
 refine ⟨h0_41, h1_42, a39, ha40, _, (hat38 0 _ rfl), _, (hat38 1 _ rfl), _, (hat38 2 _ rfl), ?_⟩
 refine newBlk (fun g9_ w43 L9 P9 e44 => ?_)
 have N4_9 := O4.ne L9
 have N5_9 := O5.ne L9
 have N6_9 := O6.apart_new L9
 have N7_9 := O7.apart_new L9
 have N8_9 := O8.ne L9
 have O4 := O4.ext e44
 have O5 := O5.ext e44
 have O6 := O6.ext e44
 have O7 := O7.ext e44
 have O8 := O8.ext e44
 have O9 := P9
 have L9 := Nat.le_trans hB.size L9
 have hB := ethen hB e44
 refine stBlk O9 (o := 0) (cs' := #[(iv ((rd s1.Frames (wrap .i64 ((s1.Frames.length : Int) - 1))).Pc)), (iv ((rd s1.Frames (wrap .i64 ((s1.Frames.length : Int) - 1))).Stop)), (iv ((rd s1.Frames (wrap .i64 ((s1.Frames.length : Int) - 1))).Mask))]) rfl rfl (Nat.le_of_ble_eq_true rfl) rfl (fun w45 O9 e46 => ?_)
 have O4_ := O4.chg e46 N4_9
 have O5_ := O5.chg e46 N5_9
 have O6_ := O6.chg e46 N6_9
 have O7_ := O7.chg e46 N7_9
 have O8_ := O8.chg e46 N8_9
 have O4 := O4_
 have O5 := O5_
 have O6 := O6_
 have O7 := O7_
 have O8 := O8_
 have hB := echg hB e46 L9
 refine ⟨_, (O9.a 0), ?_⟩
 obtain ⟨⟨h0_50, h1_51⟩, H⟩ := H
 obtain ⟨a48, ha49, hat47⟩ := Row.at (R0.ext hB) h0_50 h1_51
 refine ⟨h0_50, h1_51, a48, ha49, _, (hat47 0 _ rfl), _, (hat47 1 _ rfl), _, (hat47 2 _ rfl), _, (hat47 3 _ rfl), ?_⟩
 refine newBlk (fun g10_ w52 L10 P10 e53 => ?_)
 have N4_10 := O4.ne L10
 have N5_10 := O5.ne L10
 have N6_10 := O6.apart_new L10
 have N7_10 := O7.apart_new L10
 have N8_10 := O8.ne L10
 have N9_10 := O9.ne L10
 have O4 := O4.ext e53
 have O5 := O5.ext e53
 have O6 := O6.ext e53
 have O7 := O7.ext e53
 have O8 := O8.ext e53
 have O9 := O9.ext e53
 have O10 := P10
 have L10 := Nat.le_trans hB.size L10
 have hB := ethen hB e53
 refine stBlk O10 (o := 0) (cs' := #[(iv ((rd xs0 ((rd s1.Frames (wrap .i64 ((s1.Frames.length : Int) - 1))).Pc)).Op)), (iv ((rd xs0 ((rd s1.Frames (wrap .i64 ((s1.Frames.length : Int) - 1))).Pc)).A)), (iv ((rd xs0 ((rd s1.Frames (wrap .i64 ((s1.Frames.length : Int) - 1))).Pc)).B)), (iv ((rd xs0 ((rd s1.Frames (wrap .i64 ((s1.Frames.length : Int) - 1))).Pc)).C))]) rfl rfl (Nat.le_of_ble_eq_true rfl) rfl (fun w54 O10 e55 => ?_)
 have O4_ := O4.chg e55 N4_10
 have O5_ := O5.chg e55 N5_10
 have O6_ := O6.chg e55 N6_10
 have O7_ := O7.chg e55 N7_10
 have O8_ := O8.chg e55 N8_10
 have O9_ := O9.chg e55 N9_10
 have O4 := O4_
 have hB := echg hB e55 L10
 refine ⟨_, (O4.a 0), _, _, _, (O4.a 1), _, _, _, (O4.a 2), ?_⟩
 obtain ⟨hp58, H⟩ := H
 obtain ⟨r56, hr57, H⟩ := callO H
 refine (spec_l13Splits.con hp58 hr57 (R0.ext hB) hc0 (R1_1.ext hB) hc1_1 (R1_2.ext hB) hc1_2).mono ?_
 rintro _ w59 ⟨rfl, e60⟩
 have O4 := O4.ext e60
 have O5 := O5_.ext e60
 have O6 := O6_.ext e60
 have O7 := O7_.ext e60
 have O8 := O8_.ext e60
 have O9 := O9_.ext e60
 have O10 := O10.ext e60
 have hB := ethen hB e60
 refine ⟨r56, rfl, ?_⟩
 refine brc H (fun h H => ?_) fun h H => ?_
 ·refine ⟨_, (O4.a 0), _, _, _, (O4.a 1), _, _, _, (O4.a 2), _, (O10.a 1), ?_⟩
  obtain ⟨hp63, H⟩ := H
  obtain ⟨r61, hr62, H⟩ := callO H
  refine (spec_ZeroMask.con hp63 hr62 (R1_1.ext hB) hc1_1 (R1_2.ext hB) hc1_2).mono ?_
  rintro _ w64 ⟨rfl, e65⟩
  have O9 := O9.ext e65
  have hB := ethen hB e65
  refine ⟨r61, rfl, _, (O9.a 0), ?_⟩
  obtain ⟨hp68, H⟩ := H
  obtain ⟨r66, hr67, H⟩ := callO H
  refine (spec_l09Join.con hp68 hr67 (R0.ext hB) hc0).mono ?_
  rintro _ w69 ⟨rfl, e70⟩
  have O5 := (O5.ext e65).ext e70
  have O6 := (O6.ext e65).ext e70
  have O7 := (O7.ext e65).ext e70
  have O8 := (O8.ext e65).ext e70
  have O9 := O9.ext e70
  have O10 := (O10.ext e65).ext e70
  have hB := ethen hB e70
  refine ⟨r66, rfl, _, _, _, (O8.a 1), ?_⟩
  obtain ⟨⟨h0_74, h1_75⟩, H⟩ := H
  obtain ⟨a72, ha73, hat71⟩ := Row.at O6.row h0_74 h1_75
  refine ⟨h0_74, h1_75, a72, ha73, ?_⟩
  refine Own.stA O6 ha73 h0_74 h1_75 0 (⟨r66, (rd r25.Frames (wrap .i64 ((s1.Frames.length : Int) - 1))).Stop, (rd r25.Frames (wrap .i64 ((s1.Frames.length : Int) - 1))).Mask⟩ : D.Frame) (fun w76 P6 e77 hb78 => ?_)
  have O5_ := O5.chg e77 (fun h_ => (N6_5) _ ha73 h_.symm)
  have O7_ := O7.chg e77 (((Own.apart2_type O7 O6 (by decide))).left ha73)
  have O8_ := O8.chg e77 (fun h_ => (N6_8) _ ha73 h_.symm)
  have O9_ := O9.chg e77 (fun h_ => (N6_9) _ ha73 h_.symm)
  have O10_ := O10.chg e77 (fun h_ => (N6_10) _ ha73 h_.symm)
  have O8 := O8_
  have O9 := O9_
  have O10 := O10_
  have hB := echg hB e77 hb78
  refine ⟨_, _, _, (O8.a 1), _, (O9.a 0), _, (O9.a 2), _, (O10.a 2), ?_⟩
  refine buildOwn el91 ([(⟨(wrap .i64 ((rd s1.Frames (wrap .i64 ((s1.Frames.length : Int) - 1))).Pc + 1)), r66, (wrap .i64 ((rd s1.Frames (wrap .i64 ((s1.Frames.length : Int) - 1))).Mask - r61))⟩ : D.Frame), (⟨(rd xs0 ((rd s1.Frames (wrap .i64 ((s1.Frames.length : Int) - 1))).Pc)).B, r66, r61⟩ : D.Frame)] : List D.Frame) (fun _ => by kernel_rfl) rfl (fun A79 w80 P11 e81 => ?_)
  have O6 := P6.ext e81
  have O7 := O7_.ext e81
  have O8 := O8.ext e81
  have O11 := P11.mono hB.size
  have hB := ethen hB e81
  obtain ⟨hl86, H⟩ := H
  refine appO slt50 O6 O11.row hB.size hl86 (fun A82 c83 w84 P6 e85 => ?_)
  have O7 := O7.app e85 (Own.apart2_type O7 O6 (by decide))
  have N6_8_ := Apart.app N6_8 e85 O8.lt
  have O8 := O8.app e85 N6_8
  have N6_8 := N6_8_
  have hB := eapp hB e85 O6
  have O6 := P6
  refine stBlk O8 (o := 1) (cs' := #[(iv r25.Number), (sv A82 ((((List.set r25.Frames ((wrap .i64 ((s1.Frames.length : Int) - 1)).toNat) (⟨r66, (rd r25.Frames (wrap .i64 ((s1.Frames.length : Int) - 1))).Stop, (rd r25.Frames (wrap .i64 ((s1.Frames.length : Int) - 1))).Mask⟩ : D.Frame)) ++ ([(⟨(wrap .i64 ((rd s1.Frames (wrap .i64 ((s1.Frames.length : Int) - 1))).Pc + 1)), r66, (wrap .i64 ((rd s1.Frames (wrap .i64 ((s1.Frames.length : Int) - 1))).Mask - r61))⟩ : D.Frame), (⟨(rd xs0 ((rd s1.Frames (wrap .i64 ((s1.Frames.length : Int) - 1))).Pc)).B, r66, r61⟩ : D.Frame)] : List D.Frame))).length) c83), (sv A32 r25.Regs.length c33)]) rfl rfl (Nat.le_of_ble_eq_true rfl) rfl (fun w87 O8 e88 => ?_)
  have O5 := ((O5_.ext e81).app e85 N6_5).chg e88 N5_8
  have O6_ := O6.chg e88 N6_8
  have O7_ := O7.chg e88 N7_8
  have O6 := O6_
  have O7 := O7_
  have hB := echg hB e88 L8
  refine ⟨_, (O8.a 0), _, _, _, (O8.a 1), _, _, _, (O8.a 2), ?_⟩
  obtain ⟨hp91, H⟩ := H
  obtain ⟨r89, hr90, H⟩ := callO H
  refine (spec_DropFrames.con hp91 hr90 (R0.ext hB) hc0 O6.row O6.le O7.row O7.le).mono ?_
  rintro _ w92 ⟨A94, c95, A96, c97, rfl, P12, P13, e93⟩
  have N12_5 := P12.apart_old O5.lt
  have N13_5 := P13.apart_old O5.lt
  have O5 := O5.ext e93
  have O12 := P12.mono hB.size
  have O13 := P13.mono hB.size
  have hB := ethen hB e93
  refine ⟨r89.Number, trivial, A94, r89.Frames.length, c95, trivial, A96, r89.Regs.length, c97, trivial, rfl, ?_⟩
  refine stBlk O5 (o := 0) (cs' := (wC A94 c95 A96 c97 r89)) rfl rfl (Nat.le_of_ble_eq_true rfl) rfl (fun w98 O5 e99 => ?_)
  have O12 := O12.chg e99 N12_5
  have O13 := O13.chg e99 N13_5
  have hB := echg hB e99 L5
  refine ⟨_, (O5.a 0), _, _, _, (O5.a 1), _, _, _, (O5.a 2), ?_⟩
  cases hr.trans H.symm
  exact ⟨A94, c95, A96, c97, rfl, O12, O13, hB⟩
 refine ⟨_, (O4.a 0), _, _, _, (O4.a 1), _, _, _, (O4.a 2), ?_⟩
 obtain ⟨hp102, H⟩ := H
 obtain ⟨r100, hr101, H⟩ := callO H
 refine (spec_l13Apply.con hp102 hr101 (R0.ext hB) hc0 (R1_1.ext hB) hc1_1 (R1_2.ext hB) hc1_2).mono ?_
 rintro _ w103 ⟨A105, c106, rfl, P14, e104⟩
 have N6_14 := aN O6 P14
 have N14_8 := P14.apart_old O8.lt
 have O4 := O4.ext e104
 have O5 := O5.ext e104
 have O6 := O6.ext e104
 have O8 := O8.ext e104
 have O9 := O9.ext e104
 have O10 := O10.ext e104
 have O14 := P14.mono hB.size
 have hB := ethen hB e104
 refine ⟨A105, r100.length, c106, rfl, ?_⟩
 refine stBlk O8 (o := 2) (cs' := #[(iv r25.Number), (sv A30 r25.Frames.length c31), (sv A105 r100.length c106)]) rfl rfl (Nat.le_of_ble_eq_true rfl) rfl (fun w107 O8 e108 => ?_)
 have O4_ := O4.chg e108 N4_8
 have O5_ := O5.chg e108 N5_8
 have O6_ := O6.chg e108 N6_8
 have O9_ := O9.chg e108 (N8_9).symm
 have O10_ := O10.chg e108 (N8_10).symm
 have O14_ := O14.chg e108 N14_8
 have O4 := O4_
 have O5 := O5_
 have O6 := O6_
 have O9 := O9_
 have O10 := O10_
 have O14 := O14_
 have hB := echg hB e108 L8
 refine ⟨_, (O10.a 0), ?_⟩
 refine brc H (fun h H => ?_) fun h H => ?_
 ·refine ⟨_, _, _, (O8.a 1), ?_⟩
  obtain ⟨⟨h0_112, h1_113⟩, H⟩ := H
  obtain ⟨a110, ha111, hat109⟩ := Row.at O6.row h0_112 h1_113
  refine ⟨h0_112, h1_113, a110, ha111, ?_⟩
  refine Own.stA O6 ha111 h0_112 h1_113 0 (⟨(xs0.length : Int), (rd r25.Frames (wrap .i64 ((s1.Frames.length : Int) - 1))).Stop, (rd r25.Frames (wrap .i64 ((s1.Frames.length : Int) - 1))).Mask⟩ : D.Frame) (fun w114 O6 e115 hb116 => ?_)
  have O5 := O5.chg e115 (fun h_ => (N6_5) _ ha111 h_.symm)
  have O8_ := O8.chg e115 (fun h_ => (N6_8) _ ha111 h_.symm)
  have O14_ := O14.chg e115 (((N6_14).symm).left ha111)
  have O8 := O8_
  have O14 := O14_
  have hB := echg hB e115 hb116
  refine ⟨_, (O8.a 0), _, _, _, (O8.a 1), _, _, _, (O8.a 2), ?_⟩
  obtain ⟨hp119, H⟩ := H
  obtain ⟨r117, hr118, H⟩ := callO H
  refine (cllA (spec_DropFrames.con hp119 hr118 (R0.ext hB) hc0 O6.row O6.le O14.row O14.le)).mono ?_
  rintro _ w120 ⟨A122, c123, A124, c125, rfl, P15, P16, e121⟩
  have N15_5 := P15.apart_old O5.lt
  have N16_5 := P16.apart_old O5.lt
  have O5 := O5.ext e121
  have O15 := P15.mono hB.size
  have O16 := P16.mono hB.size
  have hB := ethen hB e121
  refine ⟨r117.Number, trivial, A122, r117.Frames.length, c123, trivial, A124, r117.Regs.length, c125, trivial, rfl, ?_⟩
  refine stBlk O5 (o := 0) (cs' := (wC A122 c123 A124 c125 r117)) rfl rfl (Nat.le_of_ble_eq_true rfl) rfl (fun w126 O5 e127 => ?_)
  have O15 := O15.chg e127 N15_5
  have O16 := O16.chg e127 N16_5
  have hB := echg hB e127 L5
  refine ⟨_, (O5.a 0), _, _, _, (O5.a 1), _, _, _, (O5.a 2), ?_⟩
  cases hr.trans H.symm
  exact ⟨A122, c123, A124, c125, rfl, O15, O16, hB⟩
 refine brc H (fun h H => ?_) fun h H => ?_
 ·refine ⟨_, _, _, (O8.a 1), _, (O10.a 2), ?_⟩
  obtain ⟨⟨h0_131, h1_132⟩, H⟩ := H
  obtain ⟨a129, ha130, hat128⟩ := Row.at O6.row h0_131 h1_132
  refine ⟨h0_131, h1_132, a129, ha130, ?_⟩
  refine Own.stA O6 ha130 h0_131 h1_132 0 (⟨(rd xs0 ((rd s1.Frames (wrap .i64 ((s1.Frames.length : Int) - 1))).Pc)).B, (rd r25.Frames (wrap .i64 ((s1.Frames.length : Int) - 1))).Stop, (rd r25.Frames (wrap .i64 ((s1.Frames.length : Int) - 1))).Mask⟩ : D.Frame) (fun w133 O6 e134 hb135 => ?_)
  have O5 := O5.chg e134 (fun h_ => (N6_5) _ ha130 h_.symm)
  have O8_ := O8.chg e134 (fun h_ => (N6_8) _ ha130 h_.symm)
  have O14_ := O14.chg e134 (((N6_14).symm).left ha130)
  have O8 := O8_
  have O14 := O14_
  have hB := echg hB e134 hb135
  refine ⟨_, (O8.a 0), _, _, _, (O8.a 1), _, _, _, (O8.a 2), ?_⟩
  obtain ⟨hp138, H⟩ := H
  obtain ⟨r136, hr137, H⟩ := callO H
  refine (cllA (spec_DropFrames.con hp138 hr137 (R0.ext hB) hc0 O6.row O6.le O14.row O14.le)).mono ?_
  rintro _ w139 ⟨A141, c142, A143, c144, rfl, P17, P18, e140⟩
  have N17_5 := P17.apart_old O5.lt
  have N18_5 := P18.apart_old O5.lt
  have O5 := O5.ext e140
  have O17 := P17.mono hB.size
  have O18 := P18.mono hB.size
  have hB := ethen hB e140
  refine ⟨r136.Number, trivial, A141, r136.Frames.length, c142, trivial, A143, r136.Regs.length, c144, trivial, rfl, ?_⟩
  refine stBlk O5 (o := 0) (cs' := (wC A141 c142 A143 c144 r136)) rfl rfl (Nat.le_of_ble_eq_true rfl) rfl (fun w145 O5 e146 => ?_)
  have O17 := O17.chg e146 N17_5
  have O18 := O18.chg e146 N18_5
  have hB := echg hB e146 L5
  refine ⟨_, (O5.a 0), _, _, _, (O5.a 1), _, _, _, (O5.a 2), ?_⟩
  cases hr.trans H.symm
  exact ⟨A141, c142, A143, c144, rfl, O17, O18, hB⟩
 refine ⟨_, _, _, (O8.a 1), _, (O9.a 0), ?_⟩
 obtain ⟨⟨h0_150, h1_151⟩, H⟩ := H
 obtain ⟨a148, ha149, hat147⟩ := Row.at O6.row h0_150 h1_151
 refine ⟨h0_150, h1_151, a148, ha149, ?_⟩
 refine Own.stA O6 ha149 h0_150 h1_151 0 (⟨(wrap .i64 ((rd s1.Frames (wrap .i64 ((s1.Frames.length : Int) - 1))).Pc + 1)), (rd r25.Frames (wrap .i64 ((s1.Frames.length : Int) - 1))).Stop, (rd r25.Frames (wrap .i64 ((s1.Frames.length : Int) - 1))).Mask⟩ : D.Frame) (fun w152 P6 e153 hb154 => ?_)
 have O4 := O4.chg e153 (fun h_ => (N6_4) _ ha149 h_.symm)
 have O5 := O5.chg e153 (fun h_ => (N6_5) _ ha149 h_.symm)
 have O8_ := O8.chg e153 (fun h_ => (N6_8) _ ha149 h_.symm)
 have O9 := O9.chg e153 (fun h_ => (N6_9) _ ha149 h_.symm)
 have O10 := O10.chg e153 (fun h_ => (N6_10) _ ha149 h_.symm)
 have O14_ := O14.chg e153 (((N6_14).symm).left ha149)
 have O8 := O8_
 have O14 := O14_
 have hB := echg hB e153 hb154
 have O6 := P6
 obtain ⟨K199, hKK199, H⟩ := joinP_out H
 refine ⟨fun z_ w_ => ∃ (b155 : Bool), z_ = (b155, ()) ∧ K199 (b155, ()) ∧ Ext w w_ ∧ Blk w_ g5_ 52 #[(iv 0), (sv none 0 0), (sv none 0 0)] ∧ Own el91 w_ w.heap.size A30 c31 (List.set r25.Frames ((wrap .i64 ((s1.Frames.length : Int) - 1)).toNat) (⟨(wrap .i64 ((rd s1.Frames (wrap .i64 ((s1.Frames.length : Int) - 1))).Pc + 1)), (rd r25.Frames (wrap .i64 ((s1.Frames.length : Int) - 1))).Stop, (rd r25.Frames (wrap .i64 ((s1.Frames.length : Int) - 1))).Mask⟩ : D.Frame)) ∧ Blk w_ g8_ 52 #[(iv r25.Number), (sv A30 r25.Frames.length c31), (sv A105 r100.length c106)] ∧ Blk w_ g10_ 84 #[(iv ((rd xs0 ((rd s1.Frames (wrap .i64 ((s1.Frames.length : Int) - 1))).Pc)).Op)), (iv ((rd xs0 ((rd s1.Frames (wrap .i64 ((s1.Frames.length : Int) - 1))).Pc)).A)), (iv ((rd xs0 ((rd s1.Frames (wrap .i64 ((s1.Frames.length : Int) - 1))).Pc)).B)), (iv ((rd xs0 ((rd s1.Frames (wrap .i64 ((s1.Frames.length : Int) - 1))).Pc)).C))] ∧ Own el3 w_ w.heap.size A105 c106 r100, ?_, ?_⟩
 ·refine ⟨(fun _ => False), _, noM (O10.a 0), ?_⟩
  refine brc H (fun h H => ?_) fun h H => ?_
  ·refine ⟨_, noM (O4.a 0), _, _, _, noM (O4.a 1), _, _, _, noM (O4.a 2), _, noM (O10.a 1), _, noM (O9.a 2), ?_⟩
   have O5 := O5.ext (Ext.drew _)
   have O6 := O6.ext (Ext.drew _)
   have O8 := O8.ext (Ext.drew _)
   have O10 := O10.ext (Ext.drew _)
   have O14 := O14.ext (Ext.drew _)
   have hB := ethen hB (Ext.drew _)
   have hS159 := (Chg.refl (fun _ => False) w152).then (Ext.drew _)
   obtain ⟨hp162, H⟩ := H
   obtain ⟨r160, hr161, H⟩ := callO H
   refine (spec_ZeroMask.con hp162 hr161 (R1_1.ext hB) hc1_1 (R1_2.ext hB) hc1_2).mono ?_
   rintro _ w163 ⟨rfl, e164⟩
   have O5 := O5.ext e164
   have O6 := O6.ext e164
   have O8 := O8.ext e164
   have O10 := O10.ext e164
   have O14 := O14.ext e164
   have hB := ethen hB e164
   have hS159 := hS159.then e164
   refine ⟨r160, rfl, sameBut_chg hS159, ?_⟩
   exact ⟨_, rfl, H, hB, O5, O6, (by first | exact O8 | (simp only [bC, wC, List.length_set]; exact O8)), O10, O14⟩
  have O5 := O5.ext (Ext.drew _)
  have O6 := O6.ext (Ext.drew _)
  have O8 := O8.ext (Ext.drew _)
  have O10 := O10.ext (Ext.drew _)
  have O14 := O14.ext (Ext.drew _)
  have hB := ethen hB (Ext.drew _)
  exact ⟨_, rfl, H, hB, O5, O6, (by first | exact O8 | (simp only [bC, wC, List.length_set]; exact O8)), O10, O14⟩
 rintro _ w157 ⟨b155, rfl, H, hB, O5, O6, O8, O10, O14⟩
 have H := hKK199 _ H
 try dsimp only at H ⊢
 refine brc H (fun h H => ?_) fun h H => ?_
 ·refine ⟨_, _, _, (O8.a 1), _, (O10.a 2), ?_⟩
  obtain ⟨⟨h0_169, h1_170⟩, H⟩ := H
  obtain ⟨a167, ha168, hat166⟩ := Row.at O6.row h0_169 h1_170
  refine ⟨h0_169, (by first | exact h1_170 | omega | (simp at h1_170 ⊢; omega)), a167, ha168, ?_⟩
  have hrd174 := rd_set h0_169 h1_170
  refine Own.storeAt O6 ha168 h0_169 h1_170 0 [(iv ((rd xs0 ((rd s1.Frames (wrap .i64 ((s1.Frames.length : Int) - 1))).Pc)).B))] (⟨(rd xs0 ((rd s1.Frames (wrap .i64 ((s1.Frames.length : Int) - 1))).Pc)).B, (rd r25.Frames (wrap .i64 ((s1.Frames.length : Int) - 1))).Stop, (rd r25.Frames (wrap .i64 ((s1.Frames.length : Int) - 1))).Mask⟩ : D.Frame) (by rw [hrd174]; rfl) (Nat.le_of_ble_eq_true rfl) rfl (fun w171 O6 e172 hb173 => ?_)
  rw [List.set_set] at O6
  have O5 := O5.chg e172 (fun h_ => (N6_5) _ ha168 h_.symm)
  have O8_ := O8.chg e172 (fun h_ => (N6_8) _ ha168 h_.symm)
  have O14_ := O14.chg e172 (((N6_14).symm).left ha168)
  have O8 := O8_
  have O14 := O14_
  have hB := echg hB e172 hb173
  refine ⟨_, (O8.a 0), _, _, _, (O8.a 1), _, _, _, (O8.a 2), ?_⟩
  obtain ⟨hp177, H⟩ := H
  obtain ⟨r175, hr176, H⟩ := callO H
  refine (cllA (spec_DropFrames.con hp177 hr176 (R0.ext hB) hc0 O6.row O6.le O14.row O14.le)).mono ?_
  rintro _ w178 ⟨A180, c181, A182, c183, rfl, P19, P20, e179⟩
  have N19_5 := P19.apart_old O5.lt
  have N20_5 := P20.apart_old O5.lt
  have O5 := O5.ext e179
  have O19 := P19.mono hB.size
  have O20 := P20.mono hB.size
  have hB := ethen hB e179
  refine ⟨r175.Number, trivial, A180, r175.Frames.length, c181, trivial, A182, r175.Regs.length, c183, trivial, rfl, ?_⟩
  refine stBlk O5 (o := 0) (cs' := (wC A180 c181 A182 c183 r175)) rfl rfl (Nat.le_of_ble_eq_true rfl) rfl (fun w184 O5 e185 => ?_)
  have O19 := O19.chg e185 N19_5
  have O20 := O20.chg e185 N20_5
  have hB := echg hB e185 L5
  refine ⟨_, (O5.a 0), _, _, _, (O5.a 1), _, _, _, (O5.a 2), ?_⟩
  cases hr.trans H.symm
  exact ⟨A180, c181, A182, c183, rfl, O19, O20, hB⟩
 refine ⟨_, (O8.a 0), _, _, _, (O8.a 1), _, _, _, (O8.a 2), ?_⟩
 obtain ⟨hp188, H⟩ := H
 obtain ⟨r186, hr187, H⟩ := callO H
 refine (cllA (spec_DropFrames.con hp188 hr187 (R0.ext hB) hc0 O6.row O6.le O14.row O14.le)).mono ?_
 rintro _ w189 ⟨A191, c192, A193, c194, rfl, P21, P22, e190⟩
 have N21_5 := P21.apart_old O5.lt
 have N22_5 := P22.apart_old O5.lt
 have O5 := O5.ext e190
 have O21 := P21.mono hB.size
 have O22 := P22.mono hB.size
 have hB := ethen hB e190
 refine ⟨r186.Number, trivial, A191, r186.Frames.length, c192, trivial, A193, r186.Regs.length, c194, trivial, rfl, ?_⟩
 refine stBlk O5 (o := 0) (cs' := (wC A191 c192 A193 c194 r186)) rfl rfl (Nat.le_of_ble_eq_true rfl) rfl (fun w195 O5 e196 => ?_)
 have O21 := O21.chg e196 N21_5
 have O22 := O22.chg e196 N22_5
 have hB := echg hB e196 L5
 refine ⟨_, (O5.a 0), _, _, _, (O5.a 1), _, _, _, (O5.a 2), ?_⟩
 cases hr.trans H.symm
 exact ⟨A191, c192, A193, c194, rfl, O21, O22, hB⟩
def spec_l01Once.vc (p0 : Addr) (x1 : Int) (w : World) (K : VK) : Prop :=
  Cl 67 #[(.pointer (some p0)), (iv x1)] w fun v21 w22 => (∃ (n23 : Int), v21 = (iv n23) ∧ K (.bool (n23 == 0)) w22)

def spec_l01Once.ann : Ann := (.seq .l (.seq .l .l))

theorem spec_l01Once.con {s0 : D.Cur} {g1_ c0_0 : Nat} {A0_0 : OA} {x1 : Int} {r : Bool × D.Cur} {w : World} (hp : M.spec_l01Once_pre s0 x1) (hr : r = M.spec_l01Once s0 x1) (O1 : Blk w g1_ 129 #[(sv A0_0 s0.b.length c0_0), (iv s0.i), (iv s0.h)]) (R0_0 : Row el5 w A0_0 s0.b) (hc0_0 : s0.b.length ≤ c0_0) (D0_0 : s0.b ≠ [] → ∀ g, InB A0_0 g → ¬ (fun k_ => k_ = g1_) g) :
    Cl 116 #[(.pointer (some (bx g1_))), (iv x1)] w (fun v_ w_ => v_ = (.bool r.1) ∧ Blk w_ g1_ 129 #[(sv A0_0 r.2.b.length c0_0), (iv r.2.i), (iv r.2.h)] ∧ r.2.b = s0.b ∧ Chg (fun k_ => k_ = g1_) w w_) := by
 have H := wp.spec_l01Once.math s0 x1 hp
 have hB := Chg.refl (fun k_ => k_ = g1_) w
 refine begK mixed Tryz.f116 ann (vc (bx g1_) x1) ?_
 unfold vc
 unfold wp.spec_l01Once at H
 obtain ⟨hp23, H⟩ := H
 obtain ⟨r21, hr22, H⟩ := callO H
 refine (spec_l01Below.con hp23 hr22 O1 (R0_0.chgS hB D0_0) hc0_0 (fun hx_ => (fun g h_ hS_ => D0_0 hx_ g h_ hS_))).mono ?_
 rintro _ w24 ⟨rfl, Q1, hq26, e25⟩
 simp only [bC, wC, hq26] at Q1
 have hB := hB.chg e25 (fun g h_ => Or.inr h_)
 have O1 := Q1
 refine ⟨r21.1, rfl, ?_⟩
 cases hr.trans H.symm
 exact ⟨rfl, O1, rfl, hB⟩
def spec_l05Body.vc (p0 : Addr) (A1 : OA) (n1 c1 : Nat) (x2 : Int) (w : World) (K : VK) : Prop :=
  Cl 67 #[(.pointer (some p0)), (iv 4)] w fun v21 w22 => (∃ (n23 : Int), v21 = (iv n23) ∧ LoopT (σ := (OA × Nat × Nat) × Int × Unit) (fun z24 w25 next26 => bcase (decide (z24.2.1 > 0)) (bcase (decide (((z24.1.2.1 : Nat) : Int) < 20)) (Cl 67 #[(.pointer (some p0)), (iv 5)] w25 fun v28 w29 => (∃ (n30 : Int), v28 = (iv n30) ∧ bcase (n30 == 0) (bcase (x2 == 0) (next26 ((z24.1.1, z24.1.2.1, z24.1.2.2), (wrap .i64 (z24.2.1 - 1)), ()) w29) (Cl 67 #[(.pointer (some p0)), (iv 4)] w29 fun v31 w32 => (∃ (n33 : Int), v31 = (iv n33) ∧ Run Tryz.prog (Instr.buildSlice 30 1 #[(0, (.agg #[(iv 10), (iv n33), (iv 0), (iv 0)]))]) w32 fun v34 w35 => ∃ (A36 : OA) (n37 c38 : Nat), v34 = .slice A36 n37 c38 ∧ Run Tryz.prog (Builtin.append_ #[30, 30] 30 #[(sv z24.1.1 z24.1.2.1 z24.1.2.2), (sv A36 n37 c38)]) w35 fun v39 w40 => ∃ (A41 : OA) (n42 c43 : Nat), v39 = .slice A41 n42 c43 ∧ Cl 141 #[(.pointer (some p0)), (sv A41 n42 c43), (iv (wrap .i64 (x2 - 1)))] w40 fun v44 w45 => (∃ (A46 : OA) (n47 c48 : Nat), v44 = (sv A46 n47 c48) ∧ Cl 116 #[(.pointer (some p0)), (iv 2)] w45 fun v49 w50 => (∃ (b51 : Bool), v49 = (.bool b51) ∧ bcase b51 ((idx ((z24.1.2.1 : Nat) : Int) n47 A46 fun a52 => stCells ((a52.add ((((z24.1.2.1 : Nat) : Int).toNat) * 4)).add 2) [(iv ((n47 : Nat) : Int))] 0 w50 fun w53 => next26 ((A46, n47, c48), (wrap .i64 (z24.2.1 - 1)), ()) w53)) (Run Tryz.prog (Instr.buildSlice 30 1 #[(0, (.agg #[(iv 11), (iv 0), (iv 0), (iv 0)]))]) w50 fun v54 w55 => ∃ (A56 : OA) (n57 c58 : Nat), v54 = .slice A56 n57 c58 ∧ Run Tryz.prog (Builtin.append_ #[30, 30] 30 #[(sv A46 n47 c48), (sv A56 n57 c58)]) w55 fun v59 w60 => ∃ (A61 : OA) (n62 c63 : Nat), v59 = .slice A61 n62 c63 ∧ (idx ((z24.1.2.1 : Nat) : Int) n62 A61 fun a64 => stCells ((a64.add ((((z24.1.2.1 : Nat) : Int).toNat) * 4)).add 2) [(iv ((n62 : Nat) : Int))] 0 w60 fun w65 => Cl 141 #[(.pointer (some p0)), (sv A61 n62 c63), (iv (wrap .i64 (x2 - 1)))] w65 fun v66 w67 => (∃ (A68 : OA) (n69 c70 : Nat), v66 = (sv A68 n69 c70) ∧ (idx ((n47 : Nat) : Int) n69 A68 fun a71 => stCells ((a71.add ((((n47 : Nat) : Int).toNat) * 4)).add 2) [(iv ((n69 : Nat) : Int))] 0 w67 fun w72 => next26 ((A68, n69, c70), (wrap .i64 (z24.2.1 - 1)), ()) w72))))))))) (bcase (n30 == 1) (bcase (x2 == 0) (next26 ((z24.1.1, z24.1.2.1, z24.1.2.2), (wrap .i64 (z24.2.1 - 1)), ()) w29) (bcase (decide (((z24.1.2.1 : Nat) : Int) > 14)) (next26 ((z24.1.1, z24.1.2.1, z24.1.2.2), (wrap .i64 (z24.2.1 - 1)), ()) w29) (Run Tryz.prog (Instr.buildSlice 30 1 #[(0, (.agg #[(iv 8), (iv 3), (iv 0), (iv 0)]))]) w29 fun v74 w75 => ∃ (A76 : OA) (n77 c78 : Nat), v74 = .slice A76 n77 c78 ∧ Run Tryz.prog (Builtin.append_ #[30, 30] 30 #[(sv z24.1.1 z24.1.2.1 z24.1.2.2), (sv A76 n77 c78)]) w75 fun v79 w80 => ∃ (A81 : OA) (n82 c83 : Nat), v79 = .slice A81 n82 c83 ∧ Run Tryz.prog (Instr.buildSlice 30 1 #[(0, (.agg #[(iv 10), (iv 3), (iv 0), (iv 0)]))]) w80 fun v84 w85 => ∃ (A86 : OA) (n87 c88 : Nat), v84 = .slice A86 n87 c88 ∧ Run Tryz.prog (Builtin.append_ #[30, 30] 30 #[(sv A81 n82 c83), (sv A86 n87 c88)]) w85 fun v89 w90 => ∃ (A91 : OA) (n92 c93 : Nat), v89 = .slice A91 n92 c93 ∧ Run Tryz.prog (Instr.buildSlice 30 3 #[(0, (.agg #[(iv 3), (iv 0), (iv 0), (iv 1)])), (1, (.agg #[(iv 1), (iv 2), (iv 1), (iv 0)])), (2, (.agg #[(iv 4), (iv 3), (iv 3), (iv 2)]))]) w90 fun v94 w95 => ∃ (A96 : OA) (n97 c98 : Nat), v94 = .slice A96 n97 c98 ∧ Run Tryz.prog (Builtin.append_ #[30, 30] 30 #[(sv A91 n92 c93), (sv A96 n97 c98)]) w95 fun v99 w100 => ∃ (A101 : OA) (n102 c103 : Nat), v99 = .slice A101 n102 c103 ∧ Run Tryz.prog (Instr.buildSlice 30 1 #[(0, (.agg #[(iv 11), (iv 0), (iv ((n82 : Nat) : Int)), (iv 0)]))]) w100 fun v104 w105 => ∃ (A106 : OA) (n107 c108 : Nat), v104 = .slice A106 n107 c108 ∧ Run Tryz.prog (Builtin.append_ #[30, 30] 30 #[(sv A101 n102 c103), (sv A106 n107 c108)]) w105 fun v109 w110 => ∃ (A111 : OA) (n112 c113 : Nat), v109 = .slice A111 n112 c113 ∧ (idx ((n82 : Nat) : Int) n112 A111 fun a114 => stCells ((a114.add ((((n82 : Nat) : Int).toNat) * 4)).add 2) [(iv ((n112 : Nat) : Int))] 0 w110 fun w115 => next26 ((A111, n112, c113), (wrap .i64 (z24.2.1 - 1)), ()) w115)))) (Cl 143 #[(.pointer (some p0))] w29 fun v116 w117 => (∃ (n118 : Int), True ∧ ∃ (n119 : Int), True ∧ ∃ (n120 : Int), True ∧ ∃ (n121 : Int), True ∧ v116 = (.agg #[(iv n118), (iv n119), (iv n120), (iv n121)]) ∧ Run Tryz.prog (Instr.buildSlice 30 1 #[(0, (.agg #[(iv n118), (iv n119), (iv n120), (iv n121)]))]) w117 fun v122 w123 => ∃ (A124 : OA) (n125 c126 : Nat), v122 = .slice A124 n125 c126 ∧ Run Tryz.prog (Builtin.append_ #[30, 30] 30 #[(sv z24.1.1 z24.1.2.1 z24.1.2.2), (sv A124 n125 c126)]) w123 fun v127 w128 => ∃ (A129 : OA) (n130 c131 : Nat), v127 = .slice A129 n130 c131 ∧ next26 ((A129, n130, c131), (wrap .i64 (z24.2.1 - 1)), ()) w128))))) (K (sv z24.1.1 z24.1.2.1 z24.1.2.2) w25)) (K (sv z24.1.1 z24.1.2.1 z24.1.2.2) w25)) ((A1, n1, c1), n23, ()) w22)

def spec_l05Body.ann : Ann := (.seq .l (.seq (.seq .l (.one (.loop [(1, .sl), (7, .int .i64)] (.seq (.seq .l (.two .l .l)) (.seq (.one (.seq .l (.one (.seq .l (.two (.seq (.seq .l (.two .l .l)) (.seq .l (.seq .l (.seq .l (.seq .l (.seq (.seq .l (.two (.seq .l .l) .l)) (.seq .l (.seq .l (.seq .l (.seq .l .l)))))))))) (.seq .l (.two (.seq (.seq .l (.two .l .l)) (.seq .l (.seq .l (.seq .l (.seq .l (.seq .l .l)))))) .l))))))) .l))))) (.seq .l .l)))

theorem spec_l05Body.con_ (n_ : Nat) : ∀ {s0 : D.Cur} {g1_ : Nat} {A0_0 : OA} {c0_0 : Nat} {xs1 : List D.Ins} {A1 : OA} {c1 : Nat} {x2 : Int} {r : (List D.Ins) × D.Cur} {w : World} (hp : M.spec_l05Body_pre s0 xs1 x2) (hr : r = M.spec_l05Body s0 xs1 x2) (O1 : Blk w g1_ 129 #[(sv A0_0 s0.b.length c0_0), (iv s0.i), (iv s0.h)]) (R0_0 : Row el5 w A0_0 s0.b) (hc0_0 : s0.b.length ≤ c0_0) (O3 : Own el84 w 0 A1 c1 xs1) (D0_0 : s0.b ≠ [] → ∀ g, InB A0_0 g → ¬ (fun k_ => k_ = g1_ ∨ InB A1 k_) g), (x2).toNat = n_ →
    Cl 141 #[(.pointer (some (bx g1_))), (sv A1 xs1.length c1), (iv x2)] w (fun v_ w_ => ∃ (A0_ : OA) (c0_ : Nat), v_ = (sv A0_ r.1.length c0_) ∧ Own el84 w_ 0 A0_ c0_ r.1 ∧ Mov w A1 A0_ ∧ Blk w_ g1_ 129 #[(sv A0_0 r.2.b.length c0_0), (iv r.2.i), (iv r.2.h)] ∧ r.2.b = s0.b ∧ Chg (fun k_ => k_ = g1_ ∨ InB A1 k_) w w_) := by
  induction n_ using Nat.strongRecOn with
  | ind n_ IH_ =>
  intro s0 g1_ A0_0 c0_0 xs1 A1 c1 x2 r w hp hr O1 R0_0 hc0_0 O3 D0_0 hn_
  have H := wp.spec_l05Body.math s0 xs1 x2 hp
  have hB := Chg.refl (fun k_ => k_ = g1_ ∨ InB A1 k_) w
  refine beginF mixed (fn := Tryz.f141) (by kernel_rfl) (by kernel_rfl) (an := spec_l05Body.ann) (V := spec_l05Body.vc (bx g1_) A1 xs1.length c1 x2) (by kernel_rfl) ?_
  unfold spec_l05Body.vc
  unfold wp.spec_l05Body at H
  obtain ⟨hp23, H⟩ := H
  obtain ⟨r21, hr22, H⟩ := callO H
  refine (spec_l01Below.con hp23 hr22 O1 (R0_0.chgS hB D0_0) hc0_0 (fun hx_ => (fun g h_ hS_ => D0_0 hx_ g h_ (Or.inl hS_)))).mono ?_
  rintro _ w24 ⟨rfl, Q1, hq26, e25⟩
  simp only [bC, wC, hq26] at Q1
  have O3 := O3.chgS e25 (box_inb (O3.apart_type O1 (by decide)))
  have hB := hB.chg e25 (fun g h_ => Or.inr (Or.inl h_))
  have O1 := Q1
  refine ⟨r21.1, rfl, ?_⟩
  obtain ⟨J49, ⟨m212, hJ211⟩, hS50⟩ := H
  refine ⟨fun m_ z_ w_ => ∃ (xs42 : List D.Ins) (i45 i46 i47 : Int) (A43 : OA) (c44 : Nat), z_ = ((A43, xs42.length, c44), i45, ()) ∧ J49 m_ (xs42, i45, i46, i47, ()) ∧ Chg (fun k_ => k_ = g1_ ∨ InB A1 k_) w w_ ∧ Own el84 w_ 0 A43 c44 xs42 ∧ Mov w A1 A43 ∧ Blk w_ g1_ 129 #[(sv A0_0 s0.b.length c0_0), (iv i46), (iv i47)], ⟨m212, xs1, r21.1, r21.2.i, r21.2.h, A1, c1, rfl, hJ211, hB, O3, (Mov.same _ _), O1⟩, ?_⟩
  rintro m48 _ w52 ⟨xs42, i45, i46, i47, A43, c44, rfl, hJ213, hB, O5, Mv5, O1⟩
  have H := hS50 m48 _ hJ213
  clear hS50 hJ213
  try dsimp only at H ⊢
  refine brc H (fun hc209 H => ?_) (fun hc209 H => ?_)
  ·refine brc H (fun hc208 H => ?_) (fun hc208 H => ?_)
   ·obtain ⟨hp55, H⟩ := H
    obtain ⟨r53, hr54, H⟩ := callO H
    refine (spec_l01Below.con hp55 hr54 O1 (R0_0.chgS hB D0_0) hc0_0 (fun hx_ => (fun g h_ hS_ => D0_0 hx_ g h_ (Or.inl hS_)))).mono ?_
    rintro _ w56 ⟨rfl, Q1, hq58, e57⟩
    simp only [bC, wC, hq58] at Q1
    have O5 := O5.chgS e57 (box_inb (O5.apart_type O1 (by decide)))
    have hB := hB.chg e57 (fun g h_ => Or.inr (Or.inl h_))
    have O1 := Q1
    refine ⟨r53.1, rfl, ?_⟩
    refine brc H (fun hc207 H => ?_) (fun hc207 H => ?_)
    ·refine brc H (fun hc137 H => ?_) (fun hc137 H => ?_)
     ·obtain ⟨m59, hm60, hJ61⟩ := H
      exact ⟨m59, hm60, xs42, (wrap .i64 (i45 - 1)), r53.2.i, r53.2.h, A43, c44, rfl, hJ61, hB, O5, Mv5, O1⟩
     obtain ⟨hp64, H⟩ := H
     obtain ⟨r62, hr63, H⟩ := callO H
     refine (spec_l01Below.con hp64 hr63 O1 (R0_0.chgS hB D0_0) hc0_0 (fun hx_ => (fun g h_ hS_ => D0_0 hx_ g h_ (Or.inl hS_)))).mono ?_
     rintro _ w65 ⟨rfl, Q1, hq67, e66⟩
     simp only [bC, wC, hq67] at Q1
     have O5 := O5.chgS e66 (box_inb (O5.apart_type O1 (by decide)))
     have hB := hB.chg e66 (fun g h_ => Or.inr (Or.inl h_))
     have O1 := Q1
     refine ⟨r62.1, rfl, ?_⟩
     refine buildOwn el84 ([(⟨10, r62.1, 0, 0⟩ : D.Ins)] : List D.Ins) (fun _ => by kernel_rfl) rfl (fun A68 w69 P6 e70 => ?_)
     have N6_1 := P6.apart_old O1.lt
     have N5_6 := Own.apart2_new O5 P6 (Nat.le_refl _)
     have O1 := O1.ext e70
     have O5 := O5.ext e70
     have O6 := P6.mono hB.size
     have hB := hB.then e70
     obtain ⟨hl75, H⟩ := H
     refine appOwnB slt30 slt30.under O5 O6.row (Nat.zero_le _) rfl (by first | rfl | omega | (simp; done) | (simp; omega)) hl75 (fun A71 c72 w73 P5 e74 => ?_)
     have N5_1_ := Apart.app (O5.apart_type O1 (by decide)) e74 O1.lt
     have O1 := O1.app e74 (O5.apart_type O1 (by decide))
     have N6_5_ := Apart2.app (N5_6).symm e74 O6
     have O6 := O6.app e74 (N5_6).symm
     have N5_1 := N5_1_
     have N6_5 := N6_5_
     have hBs_ := hB.size
     have hB := hB.app e74 (fun g h_ => (mv_or Mv5 h_ (fun h_ => (Or.inr h_))))
     have O5 := P5
     have Mw5 := Mov.trans Mv5 e74.blk hBs_
     obtain ⟨hp78, H⟩ := H
     obtain ⟨r76, hr77, H⟩ := callO H
     refine (IH_ _ (by rw [← hn_]; exact spec_l05Body.dec hp (by assumption)) hp78 hr77 O1 (R0_0.chgS hB D0_0) hc0_0 (O5.mono (Nat.zero_le _)) (fun hx_ => (fun g h_ => (fun hS_ => hS_.elim ((fun g h_ hS_ => D0_0 hx_ g h_ (Or.inl hS_)) g h_) ((fun g h_ hS_ => (mv_or Mw5 hS_ (fun h_ => (Or.inr h_))).elim (fun h3_ => Nat.not_le.2 (R0_0.old hx_ g h_) h3_) (D0_0 hx_ g h_)) g h_)))) rfl).mono ?_
     rintro _ w79 ⟨A81, c82, rfl, P7, Mv7, Q1, hq83, e80⟩
     simp only [bC, wC, hq83] at Q1
     have Mw7 := Mov.trans Mw5 Mv7 hB.size
     have hB := hB.chg e80 (fun g => (fun hS_ => hS_.elim ((fun g h_ => Or.inr (Or.inl h_)) g) ((fun g h_ => (mv_or Mw5 h_ (fun h_ => (Or.inr h_)))) g)))
     have O1 := Q1
     have O7 := P7
     refine ⟨A81, r76.1.length, c82, rfl, ?_⟩
     obtain ⟨hp86, H⟩ := H
     obtain ⟨r84, hr85, H⟩ := callO H
     refine (spec_l01Once.con hp86 hr85 O1 (R0_0.chgS hB D0_0) hc0_0 (fun hx_ => (fun g h_ hS_ => D0_0 hx_ g h_ (Or.inl hS_)))).mono ?_
     rintro _ w87 ⟨rfl, Q1, hq89, e88⟩
     simp only [bC, wC, hq89] at Q1
     have O7 := O7.chgS e88 (box_inb (O7.apart_type O1 (by decide)))
     have hB := hB.chg e88 (fun g h_ => Or.inr (Or.inl h_))
     have O1 := Q1
     refine ⟨r84.1, rfl, ?_⟩
     refine brc H (fun hc136 H => ?_) (fun hc136 H => ?_)
     ·obtain ⟨⟨h0_93, h1_94⟩, H⟩ := H
      obtain ⟨a91, ha92, hat90⟩ := Row.at O7.row h0_93 h1_94
      refine ⟨h0_93, h1_94, a91, ha92, ?_⟩
      refine Own.storeAt O7 ha92 h0_93 h1_94 2 [(iv (r76.1.length : Int))] (⟨(rd r76.1 (xs42.length : Int)).Op, (rd r76.1 (xs42.length : Int)).A, (r76.1.length : Int), (rd r76.1 (xs42.length : Int)).C⟩ : D.Ins) rfl (Nat.le_of_ble_eq_true rfl) rfl (fun w95 P7 e96 hb97 => ?_)
      have O1_ := O1.chg e96 (fun h_ => ((O7.apart_type O1 (by decide))) _ ha92 h_.symm)
      have O1 := O1_
      have hB := hB.chgb e96 (mv_or Mw7 ⟨_, ha92, rfl⟩ (fun h_ => (Or.inr h_)))
      have O7 := P7
      obtain ⟨m98, hm99, hJ100⟩ := H
      exact ⟨m98, hm99, (List.set r76.1 ((xs42.length : Int).toNat) (⟨(rd r76.1 (xs42.length : Int)).Op, (rd r76.1 (xs42.length : Int)).A, (r76.1.length : Int), (rd r76.1 (xs42.length : Int)).C⟩ : D.Ins)), (wrap .i64 (i45 - 1)), r84.2.i, r84.2.h, A81, c82, (by first | rfl | (simp only [bC, wC, List.length_set])), hJ100, hB, (by first | exact O7 | (simp only [bC, wC, List.length_set]; exact O7)), Mw7, (by first | exact O1 | (simp only [bC, wC, List.length_set]; exact O1))⟩
     refine buildOwn el84 ([(⟨11, 0, 0, 0⟩ : D.Ins)] : List D.Ins) (fun _ => by kernel_rfl) rfl (fun A101 w102 P8 e103 => ?_)
     have N8_1 := P8.apart_old O1.lt
     have N7_8 := Own.apart2_new O7 P8 (Nat.le_refl _)
     have O1 := O1.ext e103
     have O7 := O7.ext e103
     have O8 := P8.mono hB.size
     have hB := hB.then e103
     obtain ⟨hl108, H⟩ := H
     refine appOwnB slt30 slt30.under O7 O8.row (Nat.zero_le _) rfl (by first | rfl | omega | (simp; done) | (simp; omega)) hl108 (fun A104 c105 w106 P7 e107 => ?_)
     have N7_1_ := Apart.app (O7.apart_type O1 (by decide)) e107 O1.lt
     have O1 := O1.app e107 (O7.apart_type O1 (by decide))
     have N8_7_ := Apart2.app (N7_8).symm e107 O8
     have O8 := O8.app e107 (N7_8).symm
     have N7_1 := N7_1_
     have N8_7 := N8_7_
     have hBs_ := hB.size
     have hB := hB.app e107 (fun g h_ => (mv_or Mw7 h_ (fun h_ => (Or.inr h_))))
     have O7 := P7
     have Mw7 := Mov.trans Mw7 e107.blk hBs_
     obtain ⟨⟨h0_112, h1_113⟩, H⟩ := H
     obtain ⟨a110, ha111, hat109⟩ := Row.at O7.row h0_112 h1_113
     refine ⟨h0_112, h1_113, a110, ha111, ?_⟩
     refine Own.storeAt O7 ha111 h0_112 h1_113 2 [(iv (((r76.1 ++ ([(⟨11, 0, 0, 0⟩ : D.Ins)] : List D.Ins))).length : Int))] (⟨(rd (r76.1 ++ ([(⟨11, 0, 0, 0⟩ : D.Ins)] : List D.Ins)) (xs42.length : Int)).Op, (rd (r76.1 ++ ([(⟨11, 0, 0, 0⟩ : D.Ins)] : List D.Ins)) (xs42.length : Int)).A, (((r76.1 ++ ([(⟨11, 0, 0, 0⟩ : D.Ins)] : List D.Ins))).length : Int), (rd (r76.1 ++ ([(⟨11, 0, 0, 0⟩ : D.Ins)] : List D.Ins)) (xs42.length : Int)).C⟩ : D.Ins) rfl (Nat.le_of_ble_eq_true rfl) rfl (fun w114 P7 e115 hb116 => ?_)
     have O1_ := O1.chg e115 (fun h_ => (N7_1) _ ha111 h_.symm)
     have O1 := O1_
     have hB := hB.chgb e115 (mv_or Mw7 ⟨_, ha111, rfl⟩ (fun h_ => (Or.inr h_)))
     have O7 := P7
     obtain ⟨hp119, H⟩ := H
     obtain ⟨r117, hr118, H⟩ := callO H
     refine (cllArgs (by first | (simp only [bC, wC, List.length_set]; done) | (simp; done)) (IH_ _ (by rw [← hn_]; exact spec_l05Body.dec hp (by assumption)) hp119 hr118 O1 (R0_0.chgS hB D0_0) hc0_0 (O7.mono (Nat.zero_le _)) (fun hx_ => (fun g h_ => (fun hS_ => hS_.elim ((fun g h_ hS_ => D0_0 hx_ g h_ (Or.inl hS_)) g h_) ((fun g h_ hS_ => (mv_or Mw7 hS_ (fun h_ => (Or.inr h_))).elim (fun h3_ => Nat.not_le.2 (R0_0.old hx_ g h_) h3_) (D0_0 hx_ g h_)) g h_)))) rfl)).mono ?_
     rintro _ w120 ⟨A122, c123, rfl, P9, Mv9, Q1, hq124, e121⟩
     simp only [bC, wC, hq124] at Q1
     have Mw9 := Mov.trans Mw7 Mv9 hB.size
     have hB := hB.chg e121 (fun g => (fun hS_ => hS_.elim ((fun g h_ => Or.inr (Or.inl h_)) g) ((fun g h_ => (mv_or Mw7 h_ (fun h_ => (Or.inr h_)))) g)))
     have O1 := Q1
     have O9 := P9
     refine ⟨A122, r117.1.length, c123, rfl, ?_⟩
     obtain ⟨⟨h0_128, h1_129⟩, H⟩ := H
     obtain ⟨a126, ha127, hat125⟩ := Row.at O9.row h0_128 h1_129
     refine ⟨h0_128, h1_129, a126, ha127, ?_⟩
     refine Own.storeAt O9 ha127 h0_128 h1_129 2 [(iv (r117.1.length : Int))] (⟨(rd r117.1 (r76.1.length : Int)).Op, (rd r117.1 (r76.1.length : Int)).A, (r117.1.length : Int), (rd r117.1 (r76.1.length : Int)).C⟩ : D.Ins) rfl (Nat.le_of_ble_eq_true rfl) rfl (fun w130 P9 e131 hb132 => ?_)
     have O1_ := O1.chg e131 (fun h_ => ((O9.apart_type O1 (by decide))) _ ha127 h_.symm)
     have O1 := O1_
     have hB := hB.chgb e131 (mv_or Mw9 ⟨_, ha127, rfl⟩ (fun h_ => (Or.inr h_)))
     have O9 := P9
     obtain ⟨m133, hm134, hJ135⟩ := H
     exact ⟨m133, hm134, (List.set r117.1 ((r76.1.length : Int).toNat) (⟨(rd r117.1 (r76.1.length : Int)).Op, (rd r117.1 (r76.1.length : Int)).A, (r117.1.length : Int), (rd r117.1 (r76.1.length : Int)).C⟩ : D.Ins)), (wrap .i64 (i45 - 1)), r117.2.i, r117.2.h, A122, c123, (by first | rfl | (simp only [bC, wC, List.length_set])), hJ135, hB, (by first | exact O9 | (simp only [bC, wC, List.length_set]; exact O9)), Mw9, (by first | exact O1 | (simp only [bC, wC, List.length_set]; exact O1))⟩
    refine brc H (fun hc206 H => ?_) (fun hc206 H => ?_)
    ·refine brc H (fun hc188 H => ?_) (fun hc188 H => ?_)
     ·obtain ⟨m138, hm139, hJ140⟩ := H
      exact ⟨m138, hm139, xs42, (wrap .i64 (i45 - 1)), r53.2.i, r53.2.h, A43, c44, rfl, hJ140, hB, O5, Mv5, O1⟩
     refine brc H (fun hc187 H => ?_) (fun hc187 H => ?_)
     ·obtain ⟨m141, hm142, hJ143⟩ := H
      exact ⟨m141, hm142, xs42, (wrap .i64 (i45 - 1)), r53.2.i, r53.2.h, A43, c44, rfl, hJ143, hB, O5, Mv5, O1⟩
     refine buildOwn el84 ([(⟨8, 3, 0, 0⟩ : D.Ins)] : List D.Ins) (fun _ => by kernel_rfl) rfl (fun A144 w145 P10 e146 => ?_)
     have N10_1 := P10.apart_old O1.lt
     have N5_10 := Own.apart2_new O5 P10 (Nat.le_refl _)
     have O1 := O1.ext e146
     have O5 := O5.ext e146
     have O10 := P10.mono hB.size
     have hB := hB.then e146
     obtain ⟨hl151, H⟩ := H
     refine appOwnB slt30 slt30.under O5 O10.row (Nat.zero_le _) rfl (by first | rfl | omega | (simp; done) | (simp; omega)) hl151 (fun A147 c148 w149 P5 e150 => ?_)
     have N5_1_ := Apart.app (O5.apart_type O1 (by decide)) e150 O1.lt
     have O1 := O1.app e150 (O5.apart_type O1 (by decide))
     have N10_5_ := Apart2.app (N5_10).symm e150 O10
     have O10 := O10.app e150 (N5_10).symm
     have N5_1 := N5_1_
     have N10_5 := N10_5_
     have hBs_ := hB.size
     have hB := hB.app e150 (fun g h_ => (mv_or Mv5 h_ (fun h_ => (Or.inr h_))))
     have O5 := P5
     have Mw5 := Mov.trans Mv5 e150.blk hBs_
     refine buildOwn el84 ([(⟨10, 3, 0, 0⟩ : D.Ins)] : List D.Ins) (fun _ => by kernel_rfl) rfl (fun A152 w153 P11 e154 => ?_)
     have N11_1 := P11.apart_old O1.lt
     have N5_11 := Own.apart2_new O5 P11 (Nat.le_refl _)
     have O1 := O1.ext e154
     have O5 := O5.ext e154
     have O11 := P11.mono hB.size
     have hB := hB.then e154
     obtain ⟨hl159, H⟩ := H
     refine appOwnB slt30 slt30.under O5 O11.row (Nat.zero_le _) rfl (by first | rfl | omega | (simp; done) | (simp; omega)) hl159 (fun A155 c156 w157 P5 e158 => ?_)
     have N5_1_ := Apart.app N5_1 e158 O1.lt
     have O1 := O1.app e158 N5_1
     have N11_5_ := Apart2.app (N5_11).symm e158 O11
     have O11 := O11.app e158 (N5_11).symm
     have N5_1 := N5_1_
     have N11_5 := N11_5_
     have hBs_ := hB.size
     have hB := hB.app e158 (fun g h_ => (mv_or Mw5 h_ (fun h_ => (Or.inr h_))))
     have O5 := P5
     have Mw5 := Mov.trans Mw5 e158.blk hBs_
     refine buildOwn el84 ([(⟨3, 0, 0, 1⟩ : D.Ins), (⟨1, 2, 1, 0⟩ : D.Ins), (⟨4, 3, 3, 2⟩ : D.Ins)] : List D.Ins) (fun _ => by kernel_rfl) rfl (fun A160 w161 P12 e162 => ?_)
     have N12_1 := P12.apart_old O1.lt
     have N5_12 := Own.apart2_new O5 P12 (Nat.le_refl _)
     have O1 := O1.ext e162
     have O5 := O5.ext e162
     have O12 := P12.mono hB.size
     have hB := hB.then e162
     obtain ⟨hl167, H⟩ := H
     refine appOwnB slt30 slt30.under O5 O12.row (Nat.zero_le _) rfl (by first | rfl | omega | (simp; done) | (simp; omega)) hl167 (fun A163 c164 w165 P5 e166 => ?_)
     have N5_1_ := Apart.app N5_1 e166 O1.lt
     have O1 := O1.app e166 N5_1
     have N12_5_ := Apart2.app (N5_12).symm e166 O12
     have O12 := O12.app e166 (N5_12).symm
     have N5_1 := N5_1_
     have N12_5 := N12_5_
     have hBs_ := hB.size
     have hB := hB.app e166 (fun g h_ => (mv_or Mw5 h_ (fun h_ => (Or.inr h_))))
     have O5 := P5
     have Mw5 := Mov.trans Mw5 e166.blk hBs_
     refine buildOwn el84 ([(⟨11, 0, (((xs42 ++ ([(⟨8, 3, 0, 0⟩ : D.Ins)] : List D.Ins))).length : Int), 0⟩ : D.Ins)] : List D.Ins) (fun _ => by kernel_rfl) rfl (fun A168 w169 P13 e170 => ?_)
     have N13_1 := P13.apart_old O1.lt
     have N5_13 := Own.apart2_new O5 P13 (Nat.le_refl _)
     have O1 := O1.ext e170
     have O5 := O5.ext e170
     have O13 := P13.mono hB.size
     have hB := hB.then e170
     obtain ⟨hl175, H⟩ := H
     refine appOwnB slt30 slt30.under O5 O13.row (Nat.zero_le _) rfl (by first | rfl | omega | (simp; done) | (simp; omega)) hl175 (fun A171 c172 w173 P5 e174 => ?_)
     have N5_1_ := Apart.app N5_1 e174 O1.lt
     have O1 := O1.app e174 N5_1
     have N13_5_ := Apart2.app (N5_13).symm e174 O13
     have O13 := O13.app e174 (N5_13).symm
     have N5_1 := N5_1_
     have N13_5 := N13_5_
     have hBs_ := hB.size
     have hB := hB.app e174 (fun g h_ => (mv_or Mw5 h_ (fun h_ => (Or.inr h_))))
     have O5 := P5
     have Mw5 := Mov.trans Mw5 e174.blk hBs_
     obtain ⟨⟨h0_179, h1_180⟩, H⟩ := H
     obtain ⟨a177, ha178, hat176⟩ := Row.at O5.row h0_179 h1_180
     refine ⟨h0_179, h1_180, a177, ha178, ?_⟩
     refine Own.storeAt O5 ha178 h0_179 h1_180 2 [(iv ((((((xs42 ++ ([(⟨8, 3, 0, 0⟩ : D.Ins)] : List D.Ins)) ++ ([(⟨10, 3, 0, 0⟩ : D.Ins)] : List D.Ins)) ++ ([(⟨3, 0, 0, 1⟩ : D.Ins), (⟨1, 2, 1, 0⟩ : D.Ins), (⟨4, 3, 3, 2⟩ : D.Ins)] : List D.Ins)) ++ ([(⟨11, 0, (((xs42 ++ ([(⟨8, 3, 0, 0⟩ : D.Ins)] : List D.Ins))).length : Int), 0⟩ : D.Ins)] : List D.Ins))).length : Int))] (⟨(rd ((((xs42 ++ ([(⟨8, 3, 0, 0⟩ : D.Ins)] : List D.Ins)) ++ ([(⟨10, 3, 0, 0⟩ : D.Ins)] : List D.Ins)) ++ ([(⟨3, 0, 0, 1⟩ : D.Ins), (⟨1, 2, 1, 0⟩ : D.Ins), (⟨4, 3, 3, 2⟩ : D.Ins)] : List D.Ins)) ++ ([(⟨11, 0, (((xs42 ++ ([(⟨8, 3, 0, 0⟩ : D.Ins)] : List D.Ins))).length : Int), 0⟩ : D.Ins)] : List D.Ins)) (((xs42 ++ ([(⟨8, 3, 0, 0⟩ : D.Ins)] : List D.Ins))).length : Int)).Op, (rd ((((xs42 ++ ([(⟨8, 3, 0, 0⟩ : D.Ins)] : List D.Ins)) ++ ([(⟨10, 3, 0, 0⟩ : D.Ins)] : List D.Ins)) ++ ([(⟨3, 0, 0, 1⟩ : D.Ins), (⟨1, 2, 1, 0⟩ : D.Ins), (⟨4, 3, 3, 2⟩ : D.Ins)] : List D.Ins)) ++ ([(⟨11, 0, (((xs42 ++ ([(⟨8, 3, 0, 0⟩ : D.Ins)] : List D.Ins))).length : Int), 0⟩ : D.Ins)] : List D.Ins)) (((xs42 ++ ([(⟨8, 3, 0, 0⟩ : D.Ins)] : List D.Ins))).length : Int)).A, ((((((xs42 ++ ([(⟨8, 3, 0, 0⟩ : D.Ins)] : List D.Ins)) ++ ([(⟨10, 3, 0, 0⟩ : D.Ins)] : List D.Ins)) ++ ([(⟨3, 0, 0, 1⟩ : D.Ins), (⟨1, 2, 1, 0⟩ : D.Ins), (⟨4, 3, 3, 2⟩ : D.Ins)] : List D.Ins)) ++ ([(⟨11, 0, (((xs42 ++ ([(⟨8, 3, 0, 0⟩ : D.Ins)] : List D.Ins))).length : Int), 0⟩ : D.Ins)] : List D.Ins))).length : Int), (rd ((((xs42 ++ ([(⟨8, 3, 0, 0⟩ : D.Ins)] : List D.Ins)) ++ ([(⟨10, 3, 0, 0⟩ : D.Ins)] : List D.Ins)) ++ ([(⟨3, 0, 0, 1⟩ : D.Ins), (⟨1, 2, 1, 0⟩ : D.Ins), (⟨4, 3, 3, 2⟩ : D.Ins)] : List D.Ins)) ++ ([(⟨11, 0, (((xs42 ++ ([(⟨8, 3, 0, 0⟩ : D.Ins)] : List D.Ins))).length : Int), 0⟩ : D.Ins)] : List D.Ins)) (((xs42 ++ ([(⟨8, 3, 0, 0⟩ : D.Ins)] : List D.Ins))).length : Int)).C⟩ : D.Ins) rfl (Nat.le_of_ble_eq_true rfl) rfl (fun w181 P5 e182 hb183 => ?_)
     have O1_ := O1.chg e182 (fun h_ => (N5_1) _ ha178 h_.symm)
     have O1 := O1_
     have hB := hB.chgb e182 (mv_or Mw5 ⟨_, ha178, rfl⟩ (fun h_ => (Or.inr h_)))
     have O5 := P5
     obtain ⟨m184, hm185, hJ186⟩ := H
     exact ⟨m184, hm185, (List.set ((((xs42 ++ ([(⟨8, 3, 0, 0⟩ : D.Ins)] : List D.Ins)) ++ ([(⟨10, 3, 0, 0⟩ : D.Ins)] : List D.Ins)) ++ ([(⟨3, 0, 0, 1⟩ : D.Ins), (⟨1, 2, 1, 0⟩ : D.Ins), (⟨4, 3, 3, 2⟩ : D.Ins)] : List D.Ins)) ++ ([(⟨11, 0, (((xs42 ++ ([(⟨8, 3, 0, 0⟩ : D.Ins)] : List D.Ins))).length : Int), 0⟩ : D.Ins)] : List D.Ins)) ((((xs42 ++ ([(⟨8, 3, 0, 0⟩ : D.Ins)] : List D.Ins))).length : Int).toNat) (⟨(rd ((((xs42 ++ ([(⟨8, 3, 0, 0⟩ : D.Ins)] : List D.Ins)) ++ ([(⟨10, 3, 0, 0⟩ : D.Ins)] : List D.Ins)) ++ ([(⟨3, 0, 0, 1⟩ : D.Ins), (⟨1, 2, 1, 0⟩ : D.Ins), (⟨4, 3, 3, 2⟩ : D.Ins)] : List D.Ins)) ++ ([(⟨11, 0, (((xs42 ++ ([(⟨8, 3, 0, 0⟩ : D.Ins)] : List D.Ins))).length : Int), 0⟩ : D.Ins)] : List D.Ins)) (((xs42 ++ ([(⟨8, 3, 0, 0⟩ : D.Ins)] : List D.Ins))).length : Int)).Op, (rd ((((xs42 ++ ([(⟨8, 3, 0, 0⟩ : D.Ins)] : List D.Ins)) ++ ([(⟨10, 3, 0, 0⟩ : D.Ins)] : List D.Ins)) ++ ([(⟨3, 0, 0, 1⟩ : D.Ins), (⟨1, 2, 1, 0⟩ : D.Ins), (⟨4, 3, 3, 2⟩ : D.Ins)] : List D.Ins)) ++ ([(⟨11, 0, (((xs42 ++ ([(⟨8, 3, 0, 0⟩ : D.Ins)] : List D.Ins))).length : Int), 0⟩ : D.Ins)] : List D.Ins)) (((xs42 ++ ([(⟨8, 3, 0, 0⟩ : D.Ins)] : List D.Ins))).length : Int)).A, ((((((xs42 ++ ([(⟨8, 3, 0, 0⟩ : D.Ins)] : List D.Ins)) ++ ([(⟨10, 3, 0, 0⟩ : D.Ins)] : List D.Ins)) ++ ([(⟨3, 0, 0, 1⟩ : D.Ins), (⟨1, 2, 1, 0⟩ : D.Ins), (⟨4, 3, 3, 2⟩ : D.Ins)] : List D.Ins)) ++ ([(⟨11, 0, (((xs42 ++ ([(⟨8, 3, 0, 0⟩ : D.Ins)] : List D.Ins))).length : Int), 0⟩ : D.Ins)] : List D.Ins))).length : Int), (rd ((((xs42 ++ ([(⟨8, 3, 0, 0⟩ : D.Ins)] : List D.Ins)) ++ ([(⟨10, 3, 0, 0⟩ : D.Ins)] : List D.Ins)) ++ ([(⟨3, 0, 0, 1⟩ : D.Ins), (⟨1, 2, 1, 0⟩ : D.Ins), (⟨4, 3, 3, 2⟩ : D.Ins)] : List D.Ins)) ++ ([(⟨11, 0, (((xs42 ++ ([(⟨8, 3, 0, 0⟩ : D.Ins)] : List D.Ins))).length : Int), 0⟩ : D.Ins)] : List D.Ins)) (((xs42 ++ ([(⟨8, 3, 0, 0⟩ : D.Ins)] : List D.Ins))).length : Int)).C⟩ : D.Ins)), (wrap .i64 (i45 - 1)), r53.2.i, r53.2.h, A171, c172, (by first | rfl | (simp only [bC, wC, List.length_set])), hJ186, hB, (by first | exact O5 | (simp only [bC, wC, List.length_set]; exact O5)), Mw5, (by first | exact O1 | (simp only [bC, wC, List.length_set]; exact O1))⟩
    obtain ⟨hp191, H⟩ := H
    obtain ⟨r189, hr190, H⟩ := callO H
    refine (spec_l04Plain.con hp191 hr190 O1 (R0_0.chgS hB D0_0) hc0_0 (fun hx_ => (fun g h_ hS_ => D0_0 hx_ g h_ (Or.inl hS_)))).mono ?_
    rintro _ w192 ⟨rfl, Q1, hq194, e193⟩
    simp only [bC, wC, hq194] at Q1
    have O5 := O5.chgS e193 (box_inb (O5.apart_type O1 (by decide)))
    have hB := hB.chg e193 (fun g h_ => Or.inr (Or.inl h_))
    have O1 := Q1
    refine ⟨r189.1.Op, trivial, r189.1.A, trivial, r189.1.B, trivial, r189.1.C, trivial, rfl, ?_⟩
    refine buildOwn el84 ([r189.1] : List D.Ins) (fun _ => by kernel_rfl) rfl (fun A195 w196 P14 e197 => ?_)
    have N14_1 := P14.apart_old O1.lt
    have N5_14 := Own.apart2_new O5 P14 (Nat.le_refl _)
    have O1 := O1.ext e197
    have O5 := O5.ext e197
    have O14 := P14.mono hB.size
    have hB := hB.then e197
    obtain ⟨hl202, H⟩ := H
    refine appOwnB slt30 slt30.under O5 O14.row (Nat.zero_le _) rfl (by first | rfl | omega | (simp; done) | (simp; omega)) hl202 (fun A198 c199 w200 P5 e201 => ?_)
    have N5_1_ := Apart.app (O5.apart_type O1 (by decide)) e201 O1.lt
    have O1 := O1.app e201 (O5.apart_type O1 (by decide))
    have N14_5_ := Apart2.app (N5_14).symm e201 O14
    have O14 := O14.app e201 (N5_14).symm
    have N5_1 := N5_1_
    have N14_5 := N14_5_
    have hBs_ := hB.size
    have hB := hB.app e201 (fun g h_ => (mv_or Mv5 h_ (fun h_ => (Or.inr h_))))
    have O5 := P5
    have Mw5 := Mov.trans Mv5 e201.blk hBs_
    obtain ⟨m203, hm204, hJ205⟩ := H
    exact ⟨m203, hm204, (xs42 ++ ([r189.1] : List D.Ins)), (wrap .i64 (i45 - 1)), r189.2.i, r189.2.h, A198, c199, rfl, hJ205, hB, O5, Mw5, O1⟩
   obtain rfl := hr.trans H.symm
   exact ⟨A43, c44, rfl, (O5.mono (Nat.zero_le _)), Mv5, O1, rfl, hB⟩
  obtain rfl := hr.trans H.symm
  exact ⟨A43, c44, rfl, (O5.mono (Nat.zero_le _)), Mv5, O1, rfl, hB⟩

theorem spec_l05Body.con {s0 : D.Cur} {g1_ c0_0 c1 : Nat} {A0_0 A1 : OA} {xs1 : List D.Ins} {x2 : Int} {r : (List D.Ins) × D.Cur} {w : World} (hp : M.spec_l05Body_pre s0 xs1 x2) (hr : r = M.spec_l05Body s0 xs1 x2) (O1 : Blk w g1_ 129 #[(sv A0_0 s0.b.length c0_0), (iv s0.i), (iv s0.h)]) (R0_0 : Row el5 w A0_0 s0.b) (hc0_0 : s0.b.length ≤ c0_0) (O3 : Own el84 w 0 A1 c1 xs1) (D0_0 : s0.b ≠ [] → ∀ g, InB A0_0 g → ¬ (fun k_ => k_ = g1_ ∨ InB A1 k_) g) :
    Cl 141 #[(.pointer (some (bx g1_))), (sv A1 xs1.length c1), (iv x2)] w (fun v_ w_ => ∃ (A0_ : OA) (c0_ : Nat), v_ = (sv A0_ r.1.length c0_) ∧ Own el84 w_ 0 A0_ c0_ r.1 ∧ Mov w A1 A0_ ∧ Blk w_ g1_ 129 #[(sv A0_0 r.2.b.length c0_0), (iv r.2.i), (iv r.2.h)] ∧ r.2.b = s0.b ∧ Chg (fun k_ => k_ = g1_ ∨ InB A1 k_) w w_) := spec_l05Body.con_ _ hp hr O1 R0_0 hc0_0 O3 D0_0 rfl
def spec_l04Memory.vc (p0 : Addr) (w : World) (K : VK) : Prop :=
  newK w (.cells #[(iv 0), (iv 0), (iv 0), (iv 0)] 84) fun g21 w22 => Run Tryz.prog (Instr.buildSlice 24 3 #[(0, (iv 13)), (1, (iv 14)), (2, (iv 15))]) w22 fun v23 w24 => ∃ (A25 : OA) (n26 c27 : Nat), v23 = .slice A25 n26 c27 ∧ Cl 140 #[(.pointer (some p0)), (sv A25 n26 c27)] w24 fun v28 w29 => (∃ (n30 : Int), v28 = (iv n30) ∧ Cl 67 #[(.pointer (some p0)), (iv 4)] w29 fun v31 w32 => (∃ (n33 : Int), v31 = (iv n33) ∧ Cl 67 #[(.pointer (some p0)), (iv 4)] w32 fun v34 w35 => (∃ (n36 : Int), v34 = (iv n36) ∧ stCells (bx g21) [(iv n30), (iv n33), (iv n36), (iv 0)] 0 w35 fun w37 => ldI w37 ((bx g21).add 0) fun n38 => ldI w37 ((bx g21).add 1) fun n39 => ldI w37 ((bx g21).add 2) fun n40 => ldI w37 ((bx g21).add 3) fun n41 => K (.agg #[(iv n38), (iv n39), (iv n40), (iv n41)]) w37)))

def spec_l04Memory.ann : Ann := (.seq .l (.seq .l .l))

theorem spec_l04Memory.con {s0 : D.Cur} {g1_ c0_0 : Nat} {A0_0 : OA} {r : D.Ins × D.Cur} {w : World} (hp : M.spec_l04Memory_pre s0) (hr : r = M.spec_l04Memory s0) (O1 : Blk w g1_ 129 #[(sv A0_0 s0.b.length c0_0), (iv s0.i), (iv s0.h)]) (R0_0 : Row el5 w A0_0 s0.b) (hc0_0 : s0.b.length ≤ c0_0) (D0_0 : s0.b ≠ [] → ∀ g, InB A0_0 g → ¬ (fun k_ => k_ = g1_) g) :
    Cl 142 #[(.pointer (some (bx g1_)))] w (fun v_ w_ => v_ = (.agg (iC r.1)) ∧ Blk w_ g1_ 129 #[(sv A0_0 r.2.b.length c0_0), (iv r.2.i), (iv r.2.h)] ∧ r.2.b = s0.b ∧ Chg (fun k_ => k_ = g1_) w w_) := by
 have H := wp.spec_l04Memory.math s0 hp
 have hB := Chg.refl (fun k_ => k_ = g1_) w
 refine begK mixed Tryz.f142 ann (vc (bx g1_)) ?_
 unfold vc
 unfold wp.spec_l04Memory at H
 refine newBlk (fun g3_ w21 L3 P3 e22 => ?_)
 have N1_3 := O1.ne L3
 have O1 := O1.ext e22
 have L3 := Nat.le_trans hB.size L3
 have hB := hB.then e22
 refine buildOwn el3 ([13, 14, 15] : List Int) (fun _ => by kernel_rfl) rfl (fun A23 w24 P4 e25 => ?_)
 have N4_1 := P4.apart_old O1.lt
 have O1 := O1.ext e25
 have O4 := P4.mono hB.size
 have hB := hB.then e25
 obtain ⟨hp28, H⟩ := H
 obtain ⟨r26, hr27, H⟩ := callO H
 refine (cllA (spec_l01PickInt.con hp28 hr27 O1 (R0_0.chgS hB D0_0) hc0_0 O4.row O4.le (fun hx_ => (fun g h_ hS_ => D0_0 hx_ g h_ hS_)) (fun _ => (box_inb N4_1)))).mono ?_
 rintro _ w29 ⟨rfl, Q1, hq31, e30⟩
 simp only [bC, wC, hq31] at Q1
 have hB := hB.chg e30 (fun g h_ => Or.inr h_)
 have O1 := Q1
 refine ⟨r26.1, rfl, ?_⟩
 obtain ⟨hp34, H⟩ := H
 obtain ⟨r32, hr33, H⟩ := callO H
 refine (spec_l01Below.con hp34 hr33 O1 (R0_0.chgS hB D0_0) hc0_0 (fun hx_ => (fun g h_ hS_ => D0_0 hx_ g h_ hS_))).mono ?_
 rintro _ w35 ⟨rfl, Q1, hq37, e36⟩
 simp only [bC, wC, hq37] at Q1
 have hB := hB.chg e36 (fun g h_ => Or.inr h_)
 have O1 := Q1
 refine ⟨r32.1, rfl, ?_⟩
 obtain ⟨hp40, H⟩ := H
 obtain ⟨r38, hr39, H⟩ := callO H
 refine (spec_l01Below.con hp40 hr39 O1 (R0_0.chgS hB D0_0) hc0_0 (fun hx_ => (fun g h_ hS_ => D0_0 hx_ g h_ hS_))).mono ?_
 rintro _ w41 ⟨rfl, Q1, hq43, e42⟩
 simp only [bC, wC, hq43] at Q1
 have O3 := (((P3.ext e25).chgS e30 ((N1_3).symm)).chgS e36 ((N1_3).symm)).chgS e42 ((N1_3).symm)
 refine ⟨r38.1, rfl, ?_⟩
 refine stBlk O3 (o := 0) (cs' := #[(iv r26.1), (iv r32.1), (iv r38.1), (iv 0)]) rfl rfl (Nat.le_of_ble_eq_true rfl) rfl (fun w44 O3 e45 => ?_)
 have O1 := Q1.chg e45 N1_3
 have hB := (hB.chg e42 (fun g h_ => Or.inr h_)).chgb e45 (Or.inl L3)
 refine ⟨_, (O3.a 0), _, (O3.a 1), _, (O3.a 2), _, (O3.a 3), ?_⟩
 cases hr.trans H.symm
 exact ⟨rfl, O1, rfl, hB⟩
def spec_l29Program.vc (p0 : Addr) (w : World) (K : VK) : Prop :=
  Run Tryz.prog (Instr.buildSlice 30 1 #[(0, (.agg #[(iv 8), (iv 0), (iv 0), (iv 0)]))]) w fun v21 w22 => ∃ (A23 : OA) (n24 c25 : Nat), v21 = .slice A23 n24 c25 ∧ Cl 67 #[(.pointer (some p0)), (iv 5)] w22 fun v26 w27 => (∃ (n28 : Int), v26 = (iv n28) ∧ LoopT (σ := (OA × Nat × Nat) × Int × Unit) (fun z29 w30 next31 => bcase (decide (z29.2.1 > 0)) (bcase (decide ((wrap .i64 (((z29.1.2.1 : Nat) : Int) + 4)) ≤ 32)) (Cl 67 #[(.pointer (some p0)), (iv 7)] w30 fun v33 w34 => (∃ (n35 : Int), v33 = (iv n35) ∧ bcase (n35 == 0) (Run Tryz.prog (Instr.buildSlice 30 1 #[(0, (.agg #[(iv 16), (iv 0), (iv 0), (iv 0)]))]) w34 fun v36 w37 => ∃ (A38 : OA) (n39 c40 : Nat), v36 = .slice A38 n39 c40 ∧ Run Tryz.prog (Builtin.append_ #[30, 30] 30 #[(sv z29.1.1 z29.1.2.1 z29.1.2.2), (sv A38 n39 c40)]) w37 fun v41 w42 => ∃ (A43 : OA) (n44 c45 : Nat), v41 = .slice A43 n44 c45 ∧ next31 ((A43, n44, c45), (wrap .i64 (z29.2.1 - 1)), ()) w42) (bcase (n35 == 1) (Cl 67 #[(.pointer (some p0)), (iv 4)] w34 fun v46 w47 => (∃ (n48 : Int), v46 = (iv n48) ∧ Run Tryz.prog (Instr.buildSlice 30 2 #[(0, (.agg #[(iv 8), (iv 0), (iv 0), (iv 0)])), (1, (.agg #[(iv 14), (iv 0), (iv n48), (iv 0)]))]) w47 fun v49 w50 => ∃ (A51 : OA) (n52 c53 : Nat), v49 = .slice A51 n52 c53 ∧ Run Tryz.prog (Builtin.append_ #[30, 30] 30 #[(sv z29.1.1 z29.1.2.1 z29.1.2.2), (sv A51 n52 c53)]) w50 fun v54 w55 => ∃ (A56 : OA) (n57 c58 : Nat), v54 = .slice A56 n57 c58 ∧ next31 ((A56, n57, c58), (wrap .i64 (z29.2.1 - 1)), ()) w55)) (bcase (n35 == 2) (Run Tryz.prog (Instr.buildSlice 24 3 #[(0, (iv 1)), (1, (iv 8)), (2, (iv 31))]) w34 fun v59 w60 => ∃ (A61 : OA) (n62 c63 : Nat), v59 = .slice A61 n62 c63 ∧ Cl 140 #[(.pointer (some p0)), (sv A61 n62 c63)] w60 fun v64 w65 => (∃ (n66 : Int), v64 = (iv n66) ∧ Run Tryz.prog (Instr.buildSlice 30 4 #[(0, (.agg #[(iv 1), (iv 1), (iv n66), (iv 0)])), (1, (.agg #[(iv 8), (iv 0), (iv 0), (iv 0)])), (2, (.agg #[(iv 3), (iv 0), (iv 0), (iv 1)])), (3, (.agg #[(iv 13), (iv 2), (iv 0), (iv 0)]))]) w65 fun v67 w68 => ∃ (A69 : OA) (n70 c71 : Nat), v67 = .slice A69 n70 c71 ∧ Run Tryz.prog (Builtin.append_ #[30, 30] 30 #[(sv z29.1.1 z29.1.2.1 z29.1.2.2), (sv A69 n70 c71)]) w68 fun v72 w73 => ∃ (A74 : OA) (n75 c76 : Nat), v72 = .slice A74 n75 c76 ∧ next31 ((A74, n75, c76), (wrap .i64 (z29.2.1 - 1)), ()) w73)) (bcase (n35 == 3) (Cl 67 #[(.pointer (some p0)), (iv 8)] w34 fun v77 w78 => (∃ (n79 : Int), v77 = (iv n79) ∧ Cl 67 #[(.pointer (some p0)), (iv 4)] w78 fun v80 w81 => (∃ (n82 : Int), v80 = (iv n82) ∧ Run Tryz.prog (Instr.buildSlice 30 2 #[(0, (.agg #[(iv 1), (iv 1), (iv (wrap .i64 (24 + n79))), (iv 0)])), (1, (.agg #[(iv 15), (iv 1), (iv n82), (iv 0)]))]) w81 fun v83 w84 => ∃ (A85 : OA) (n86 c87 : Nat), v83 = .slice A85 n86 c87 ∧ Run Tryz.prog (Builtin.append_ #[30, 30] 30 #[(sv z29.1.1 z29.1.2.1 z29.1.2.2), (sv A85 n86 c87)]) w84 fun v88 w89 => ∃ (A90 : OA) (n91 c92 : Nat), v88 = .slice A90 n91 c92 ∧ next31 ((A90, n91, c92), (wrap .i64 (z29.2.1 - 1)), ()) w89))) (bcase (n35 == 4) (bcase (decide (((z29.1.2.1 : Nat) : Int) < 12)) (Cl 141 #[(.pointer (some p0)), (sv z29.1.1 z29.1.2.1 z29.1.2.2), (iv 1)] w34 fun v93 w94 => (∃ (A95 : OA) (n96 c97 : Nat), v93 = (sv A95 n96 c97) ∧ next31 ((A95, n96, c97), (wrap .i64 (z29.2.1 - 1)), ()) w94)) (next31 ((z29.1.1, z29.1.2.1, z29.1.2.2), (wrap .i64 (z29.2.1 - 1)), ()) w34)) (bcase (n35 == 5) (Cl 142 #[(.pointer (some p0))] w34 fun v98 w99 => (∃ (n100 : Int), True ∧ ∃ (n101 : Int), True ∧ ∃ (n102 : Int), True ∧ ∃ (n103 : Int), True ∧ v98 = (.agg #[(iv n100), (iv n101), (iv n102), (iv n103)]) ∧ Run Tryz.prog (Instr.buildSlice 30 1 #[(0, (.agg #[(iv n100), (iv n101), (iv n102), (iv n103)]))]) w99 fun v104 w105 => ∃ (A106 : OA) (n107 c108 : Nat), v104 = .slice A106 n107 c108 ∧ Run Tryz.prog (Builtin.append_ #[30, 30] 30 #[(sv z29.1.1 z29.1.2.1 z29.1.2.2), (sv A106 n107 c108)]) w105 fun v109 w110 => ∃ (A111 : OA) (n112 c113 : Nat), v109 = .slice A111 n112 c113 ∧ next31 ((A111, n112, c113), (wrap .i64 (z29.2.1 - 1)), ()) w110)) (Cl 143 #[(.pointer (some p0))] w34 fun v114 w115 => (∃ (n116 : Int), True ∧ ∃ (n117 : Int), True ∧ ∃ (n118 : Int), True ∧ ∃ (n119 : Int), True ∧ v114 = (.agg #[(iv n116), (iv n117), (iv n118), (iv n119)]) ∧ Run Tryz.prog (Instr.buildSlice 30 1 #[(0, (.agg #[(iv n116), (iv n117), (iv n118), (iv n119)]))]) w115 fun v120 w121 => ∃ (A122 : OA) (n123 c124 : Nat), v120 = .slice A122 n123 c124 ∧ Run Tryz.prog (Builtin.append_ #[30, 30] 30 #[(sv z29.1.1 z29.1.2.1 z29.1.2.2), (sv A122 n123 c124)]) w121 fun v125 w126 => ∃ (A127 : OA) (n128 c129 : Nat), v125 = .slice A127 n128 c129 ∧ next31 ((A127, n128, c129), (wrap .i64 (z29.2.1 - 1)), ()) w126))))))))) (K (sv z29.1.1 z29.1.2.1 z29.1.2.2) w30)) (K (sv z29.1.1 z29.1.2.1 z29.1.2.2) w30)) ((A23, n24, c25), (wrap .i64 (1 + n28)), ()) w27)

def spec_l29Program.ann : Ann := (.seq .l (.seq .l (.seq (.seq .l (.one (.loop [(3, .sl), (4, .int .i64)] (.seq (.seq .l (.two .l .l)) (.seq (.one (.seq .l (.one (.seq .l (.two .l (.seq .l (.two .l (.seq .l (.two .l (.seq .l (.two .l (.seq .l (.two (.seq .l (.two .l .l)) (.seq .l (.two .l .l))))))))))))))) .l))))) (.seq .l .l))))

theorem spec_l29Program.con {s0 : D.Cur} {g1_ c0_0 : Nat} {A0_0 : OA} {r : (List D.Ins) × D.Cur} {w : World} (hp : M.spec_l29Program_pre s0) (hr : r = M.spec_l29Program s0) (O1 : Blk w g1_ 129 #[(sv A0_0 s0.b.length c0_0), (iv s0.i), (iv s0.h)]) (R0_0 : Row el5 w A0_0 s0.b) (hc0_0 : s0.b.length ≤ c0_0) (D0_0 : s0.b ≠ [] → ∀ g, InB A0_0 g → ¬ (fun k_ => k_ = g1_) g) :
    Cl 85 #[(.pointer (some (bx g1_)))] w (fun v_ w_ => ∃ (A0_ : OA) (c0_ : Nat), v_ = (sv A0_ r.1.length c0_) ∧ Own el84 w_ w.heap.size A0_ c0_ r.1 ∧ Blk w_ g1_ 129 #[(sv A0_0 r.2.b.length c0_0), (iv r.2.i), (iv r.2.h)] ∧ r.2.b = s0.b ∧ Chg (fun k_ => k_ = g1_) w w_) := by
 have H := wp.spec_l29Program.math s0 hp
 have hB := Chg.refl (fun k_ => k_ = g1_) w
 refine begK mixed Tryz.f85 ann (vc (bx g1_)) ?_
 unfold vc
 unfold wp.spec_l29Program at H
 refine buildOwn el84 ([(⟨8, 0, 0, 0⟩ : D.Ins)] : List D.Ins) (fun _ => by kernel_rfl) rfl (fun A21 w22 P3 e23 => ?_)
 have N3_1 := P3.apart_old O1.lt
 have O1 := O1.ext e23
 have O3 := P3.mono hB.size
 have hB := hB.then e23
 obtain ⟨hp26, H⟩ := H
 obtain ⟨r24, hr25, H⟩ := callO H
 refine (spec_l01Below.con hp26 hr25 O1 (R0_0.chgS hB D0_0) hc0_0 (fun hx_ => (fun g h_ hS_ => D0_0 hx_ g h_ hS_))).mono ?_
 rintro _ w27 ⟨rfl, Q1, hq29, e28⟩
 simp only [bC, wC, hq29] at Q1
 have O3 := O3.chgS e28 (box_inb N3_1)
 have hB := hB.chg e28 (fun g h_ => Or.inr h_)
 have O1 := Q1
 refine ⟨r24.1, rfl, ?_⟩
 obtain ⟨J60, ⟨m200, hJ199⟩, hS61⟩ := H
 refine ⟨fun m_ z_ w_ => ∃ (xs53 : List D.Ins) (i56 i57 i58 : Int) (A54 : OA) (c55 : Nat), z_ = ((A54, xs53.length, c55), i56, ()) ∧ J60 m_ (xs53, i56, i57, i58, ()) ∧ Chg (fun k_ => k_ = g1_) w w_ ∧ Own el84 w_ w.heap.size A54 c55 xs53 ∧ Blk w_ g1_ 129 #[(sv A0_0 s0.b.length c0_0), (iv i57), (iv i58)], ⟨m200, ([(⟨8, 0, 0, 0⟩ : D.Ins)] : List D.Ins), (wrap .i64 (1 + r24.1)), r24.2.i, r24.2.h, A21, 1, rfl, hJ199, hB, O3, O1⟩, ?_⟩
 rintro m59 _ w63 ⟨xs53, i56, i57, i58, A54, c55, rfl, hJ201, hB, O6, O1⟩
 have H := hS61 m59 _ hJ201
 clear hS61 hJ201
 try dsimp only at H ⊢
 refine brc H (fun h H => ?_) fun h H => ?_
 ·refine brc H (fun h H => ?_) fun h H => ?_
  ·obtain ⟨hp66, H⟩ := H
   obtain ⟨r64, hr65, H⟩ := callO H
   refine (spec_l01Below.con hp66 hr65 O1 (R0_0.chgS hB D0_0) hc0_0 (fun hx_ => (fun g h_ hS_ => D0_0 hx_ g h_ hS_))).mono ?_
   rintro _ w67 ⟨rfl, Q1, hq69, e68⟩
   simp only [bC, wC, hq69] at Q1
   have O6 := O6.chgS e68 (box_inb (O6.apart_type O1 (by decide)))
   have hB := hB.chg e68 (fun g h_ => Or.inr h_)
   have O1 := Q1
   refine ⟨r64.1, rfl, ?_⟩
   refine brc H (fun h H => ?_) fun h H => ?_
   ·refine buildOwn el84 ([(⟨16, 0, 0, 0⟩ : D.Ins)] : List D.Ins) (fun _ => by kernel_rfl) rfl (fun A70 w71 P7 e72 => ?_)
    have O1 := O1.ext e72
    have O6 := O6.ext e72
    have O7 := P7.mono hB.size
    have hB := hB.then e72
    obtain ⟨hl77, H⟩ := H
    refine appO slt30 O6 O7.row hB.size hl77 (fun A73 c74 w75 P6 e76 => ?_)
    have O1 := O1.app e76 (O6.apart_type O1 (by decide))
    have hB := hB.app e76 (fun g h_ => Or.inl (O6.low g h_))
    have O6 := P6
    obtain ⟨m78, hm79, hJ80⟩ := H
    exact ⟨m78, hm79, _, _, _, _, A73, c74, rfl, hJ80, hB, O6, O1⟩
   refine brc H (fun h H => ?_) fun h H => ?_
   ·obtain ⟨hp83, H⟩ := H
    obtain ⟨r81, hr82, H⟩ := callO H
    refine (spec_l01Below.con hp83 hr82 O1 (R0_0.chgS hB D0_0) hc0_0 (fun hx_ => (fun g h_ hS_ => D0_0 hx_ g h_ hS_))).mono ?_
    rintro _ w84 ⟨rfl, Q1, hq86, e85⟩
    simp only [bC, wC, hq86] at Q1
    have O6 := O6.chgS e85 (box_inb (O6.apart_type O1 (by decide)))
    have hB := hB.chg e85 (fun g h_ => Or.inr h_)
    refine ⟨r81.1, rfl, ?_⟩
    refine buildOwn el84 ([(⟨8, 0, 0, 0⟩ : D.Ins), (⟨14, 0, r81.1, 0⟩ : D.Ins)] : List D.Ins) (fun _ => by kernel_rfl) rfl (fun A87 w88 P8 e89 => ?_)
    have O1 := Q1.ext e89
    have O6 := O6.ext e89
    have O8 := P8.mono hB.size
    have hB := hB.then e89
    obtain ⟨hl94, H⟩ := H
    refine appO slt30 O6 O8.row hB.size hl94 (fun A90 c91 w92 P6 e93 => ?_)
    have O1 := O1.app e93 (O6.apart_type O1 (by decide))
    have hB := hB.app e93 (fun g h_ => Or.inl (O6.low g h_))
    have O6 := P6
    obtain ⟨m95, hm96, hJ97⟩ := H
    exact ⟨m95, hm96, _, _, _, _, A90, c91, rfl, hJ97, hB, O6, O1⟩
   refine brc H (fun h H => ?_) fun h H => ?_
   ·refine buildOwn el3 ([1, 8, 31] : List Int) (fun _ => by kernel_rfl) rfl (fun A98 w99 P9 e100 => ?_)
    have N9_1 := P9.apart_old O1.lt
    have O1 := O1.ext e100
    have O6 := O6.ext e100
    have O9 := P9.mono hB.size
    have hB := hB.then e100
    obtain ⟨hp103, H⟩ := H
    obtain ⟨r101, hr102, H⟩ := callO H
    refine (cllA (spec_l01PickInt.con hp103 hr102 O1 (R0_0.chgS hB D0_0) hc0_0 O9.row O9.le (fun hx_ => (fun g h_ hS_ => D0_0 hx_ g h_ hS_)) (fun _ => (box_inb N9_1)))).mono ?_
    rintro _ w104 ⟨rfl, Q1, hq106, e105⟩
    simp only [bC, wC, hq106] at Q1
    have O6 := O6.chgS e105 (box_inb (O6.apart_type O1 (by decide)))
    have hB := hB.chg e105 (fun g h_ => Or.inr h_)
    refine ⟨r101.1, rfl, ?_⟩
    refine buildOwn el84 ([(⟨1, 1, r101.1, 0⟩ : D.Ins), (⟨8, 0, 0, 0⟩ : D.Ins), (⟨3, 0, 0, 1⟩ : D.Ins), (⟨13, 2, 0, 0⟩ : D.Ins)] : List D.Ins) (fun _ => by kernel_rfl) rfl (fun A107 w108 P10 e109 => ?_)
    have O1 := Q1.ext e109
    have O6 := O6.ext e109
    have O10 := P10.mono hB.size
    have hB := hB.then e109
    obtain ⟨hl114, H⟩ := H
    refine appO slt30 O6 O10.row hB.size hl114 (fun A110 c111 w112 P6 e113 => ?_)
    have O1 := O1.app e113 (O6.apart_type O1 (by decide))
    have hB := hB.app e113 (fun g h_ => Or.inl (O6.low g h_))
    have O6 := P6
    obtain ⟨m115, hm116, hJ117⟩ := H
    exact ⟨m115, hm116, _, _, _, _, A110, c111, rfl, hJ117, hB, O6, O1⟩
   refine brc H (fun h H => ?_) fun h H => ?_
   ·obtain ⟨hp120, H⟩ := H
    obtain ⟨r118, hr119, H⟩ := callO H
    refine (spec_l01Below.con hp120 hr119 O1 (R0_0.chgS hB D0_0) hc0_0 (fun hx_ => (fun g h_ hS_ => D0_0 hx_ g h_ hS_))).mono ?_
    rintro _ w121 ⟨rfl, Q1, hq123, e122⟩
    simp only [bC, wC, hq123] at Q1
    have O6 := O6.chgS e122 (box_inb (O6.apart_type O1 (by decide)))
    have hB := hB.chg e122 (fun g h_ => Or.inr h_)
    have O1 := Q1
    refine ⟨r118.1, rfl, ?_⟩
    obtain ⟨hp126, H⟩ := H
    obtain ⟨r124, hr125, H⟩ := callO H
    refine (spec_l01Below.con hp126 hr125 O1 (R0_0.chgS hB D0_0) hc0_0 (fun hx_ => (fun g h_ hS_ => D0_0 hx_ g h_ hS_))).mono ?_
    rintro _ w127 ⟨rfl, Q1, hq129, e128⟩
    simp only [bC, wC, hq129] at Q1
    have O6 := O6.chgS e128 (box_inb (O6.apart_type O1 (by decide)))
    have hB := hB.chg e128 (fun g h_ => Or.inr h_)
    refine ⟨r124.1, rfl, ?_⟩
    refine buildOwn el84 ([(⟨1, 1, (wrap .i64 (24 + r118.1)), 0⟩ : D.Ins), (⟨15, 1, r124.1, 0⟩ : D.Ins)] : List D.Ins) (fun _ => by kernel_rfl) rfl (fun A130 w131 P11 e132 => ?_)
    have O1 := Q1.ext e132
    have O6 := O6.ext e132
    have O11 := P11.mono hB.size
    have hB := hB.then e132
    obtain ⟨hl137, H⟩ := H
    refine appO slt30 O6 O11.row hB.size hl137 (fun A133 c134 w135 P6 e136 => ?_)
    have O1 := O1.app e136 (O6.apart_type O1 (by decide))
    have hB := hB.app e136 (fun g h_ => Or.inl (O6.low g h_))
    have O6 := P6
    obtain ⟨m138, hm139, hJ140⟩ := H
    exact ⟨m138, hm139, _, _, _, _, A133, c134, rfl, hJ140, hB, O6, O1⟩
   refine brc H (fun h H => ?_) fun h H => ?_
   ·refine brc H (fun h H => ?_) fun h H => ?_
    ·obtain ⟨hp143, H⟩ := H
     obtain ⟨r141, hr142, H⟩ := callO H
     refine (spec_l05Body.con hp143 hr142 O1 (R0_0.chgS hB D0_0) hc0_0 (O6.mono (Nat.zero_le _)) (fun hx_ => (fun g h_ => (fun hS_ => hS_.elim ((fun g h_ hS_ => D0_0 hx_ g h_ hS_) g h_) ((fun g h_ hS_ => Nat.not_le.2 (R0_0.old hx_ g h_) (O6.low g hS_)) g h_))))).mono ?_
     rintro _ w144 ⟨A146, c147, rfl, P12, Mv12, Q1, hq148, e145⟩
     simp only [bC, wC, hq148] at Q1
     have Lw12 := Mv12.low O6.low hB.size
     have hB := hB.chg e145 (fun g => (fun hS_ => hS_.elim ((fun g h_ => Or.inr h_) g) ((fun g h_ => Or.inl (O6.low g h_)) g)))
     have O1 := Q1
     have O12 := P12.lift Lw12
     refine ⟨A146, r141.1.length, c147, rfl, ?_⟩
     obtain ⟨m149, hm150, hJ151⟩ := H
     exact ⟨m149, hm150, _, _, _, _, A146, c147, rfl, hJ151, hB, O12, O1⟩
    obtain ⟨m152, hm153, hJ154⟩ := H
    exact ⟨m152, hm153, xs53, _, _, _, A54, c55, rfl, hJ154, hB, O6, O1⟩
   refine brc H (fun h H => ?_) fun h H => ?_
   ·obtain ⟨hp158, H⟩ := H
    obtain ⟨r156, hr157, H⟩ := callO H
    refine (spec_l04Memory.con hp158 hr157 O1 (R0_0.chgS hB D0_0) hc0_0 (fun hx_ => (fun g h_ hS_ => D0_0 hx_ g h_ hS_))).mono ?_
    rintro _ w159 ⟨rfl, Q1, hq161, e160⟩
    simp only [bC, wC, hq161] at Q1
    have O6 := O6.chgS e160 (box_inb (O6.apart_type O1 (by decide)))
    have hB := hB.chg e160 (fun g h_ => Or.inr h_)
    refine ⟨r156.1.Op, trivial, r156.1.A, trivial, r156.1.B, trivial, r156.1.C, trivial, rfl, ?_⟩
    refine buildOwn el84 ([r156.1] : List D.Ins) (fun _ => by kernel_rfl) rfl (fun A162 w163 P13 e164 => ?_)
    have O1 := Q1.ext e164
    have O6 := O6.ext e164
    have O13 := P13.mono hB.size
    have hB := hB.then e164
    obtain ⟨hl169, H⟩ := H
    refine appO slt30 O6 O13.row hB.size hl169 (fun A165 c166 w167 P6 e168 => ?_)
    have O1 := O1.app e168 (O6.apart_type O1 (by decide))
    have hB := hB.app e168 (fun g h_ => Or.inl (O6.low g h_))
    have O6 := P6
    obtain ⟨m170, hm171, hJ172⟩ := H
    exact ⟨m170, hm171, _, _, _, _, A165, c166, rfl, hJ172, hB, O6, O1⟩
   obtain ⟨hp175, H⟩ := H
   obtain ⟨r173, hr174, H⟩ := callO H
   refine (spec_l04Plain.con hp175 hr174 O1 (R0_0.chgS hB D0_0) hc0_0 (fun hx_ => (fun g h_ hS_ => D0_0 hx_ g h_ hS_))).mono ?_
   rintro _ w176 ⟨rfl, Q1, hq178, e177⟩
   simp only [bC, wC, hq178] at Q1
   have O6 := O6.chgS e177 (box_inb (O6.apart_type O1 (by decide)))
   have hB := hB.chg e177 (fun g h_ => Or.inr h_)
   refine ⟨r173.1.Op, trivial, r173.1.A, trivial, r173.1.B, trivial, r173.1.C, trivial, rfl, ?_⟩
   refine buildOwn el84 ([r173.1] : List D.Ins) (fun _ => by kernel_rfl) rfl (fun A179 w180 P14 e181 => ?_)
   have O1 := Q1.ext e181
   have O6 := O6.ext e181
   have O14 := P14.mono hB.size
   have hB := hB.then e181
   obtain ⟨hl186, H⟩ := H
   refine appO slt30 O6 O14.row hB.size hl186 (fun A182 c183 w184 P6 e185 => ?_)
   have O1 := O1.app e185 (O6.apart_type O1 (by decide))
   have hB := hB.app e185 (fun g h_ => Or.inl (O6.low g h_))
   have O6 := P6
   obtain ⟨m187, hm188, hJ189⟩ := H
   exact ⟨m187, hm188, _, _, _, _, A182, c183, rfl, hJ189, hB, O6, O1⟩
  cases hr.trans H.symm
  exact ⟨A54, c55, rfl, O6, O1, rfl, hB⟩
 cases hr.trans H.symm
 exact ⟨A54, c55, rfl, O6, O1, rfl, hB⟩
def spec_l30Memory.vc (A0_0 : OA) (n0_0 c0_0 : Nat) (A0_1 : OA) (n0_1 c0_1 : Nat) (A0_2 : OA) (n0_2 c0_2 : Nat) (x0_3 x0_4 x1 : Int) (w : World) (K : VK) : Prop :=
  newK w (.cells (vB A0_0 n0_0 c0_0 A0_1 n0_1 c0_1 A0_2 n0_2 c0_2 x0_3 x0_4) 33) fun g21 w22 => newK w22 (.cells zC 33) fun g23 w24 => ldB w24 (bx g21) fun A25 n26 c27 A28 n29 c30 A31 n32 c33 n34 n35 => Cl 98 #[(.agg (vB A25 n26 c27 A28 n29 c30 A31 n32 c33 n34 n35)), (iv x1)] w24 fun v36 w37 => (∃ (n38 : Int), True ∧ ∃ (n39 : Int), True ∧ ∃ (n40 : Int), True ∧ ∃ (n41 : Int), True ∧ v36 = (.agg #[(iv n38), (iv n39), (iv n40), (iv n41)]) ∧ newK w37 (.cells #[(iv 0), (iv 0), (iv 0), (iv 0)] 84) fun g42 w43 => stCells (bx g42) [(iv n38), (iv n39), (iv n40), (iv n41)] 0 w43 fun w44 => ldS w44 (((bx g21).add 1).add 0) fun A45 n46 c47 => (idx x1 n46 A45 fun a48 => ldI w44 ((a48.add ((x1.toNat) * 3)).add 0) fun n49 => ldS w44 ((a48.add ((x1.toNat) * 3)).add 1) fun A50 n51 c52 => ldS w44 ((a48.add ((x1.toNat) * 3)).add 2) fun A53 n54 c55 => Cl 100 #[(.agg #[(iv n49), (sv A50 n51 c52), (sv A53 n54 c55)])] w44 fun v56 w57 => (∃ (n58 : Int), v56 = (iv n58) ∧ ldS w57 (((bx g21).add 1).add 0) fun A59 n60 c61 => (idx x1 n60 A59 fun a62 => ldS w57 (((a62.add ((x1.toNat) * 3)).add 2).add 0) fun A63 n64 c65 => LoopT (σ := Int × Unit) (fun z66 w67 next68 => bcase (decide (z66.1 < 8)) (Cl 101 #[(iv n58), (iv z66.1)] w67 fun v69 w70 => (∃ (b71 : Bool), v69 = (.bool b71) ∧ bcase (!b71) (next68 ((wrap .i64 (z66.1 + 1)), ()) w70) (ldI w70 (((bx g42).add 1).add 0) fun n72 => (idx (wrap .i64 ((wrap .i64 (z66.1 * 4)) + n72)) n64 A63 fun a73 => ldI w70 ((a73.add (((wrap .i64 ((wrap .i64 (z66.1 * 4)) + n72)).toNat) * 1)).add 0) fun n74 => ldI w70 (((bx g42).add 2).add 0) fun n75 => (idx (wrap .i64 ((wrap .i64 (z66.1 * 4)) + n75)) n64 A63 fun a76 => ldI w70 ((a76.add (((wrap .i64 ((wrap .i64 (z66.1 * 4)) + n75)).toNat) * 1)).add 0) fun n77 => ldI w70 (((bx g42).add 0).add 0) fun n78 => bcase (n78 == 13) ((∃ M79 : Nat → Prop, ldIM M79 w70 ((bx g42).add 1) 0 fun n80 => ldSM M79 w70 ((bx g21).add 2) 0 fun A81 n82 c83 => ((32 : Int) ≠ 0 ∧ (idx (Int.tmod n77 32) n82 A81 fun a84 => ldIM M79 w70 (a84.add (((Int.tmod n77 32).toNat) * 1)) 0 fun n85 => (idx (wrap .i64 ((wrap .i64 (z66.1 * 4)) + n80)) n64 A63 fun a86 => stCells (a86.add (((wrap .i64 ((wrap .i64 (z66.1 * 4)) + n80)).toNat) * 1)) [(iv n85)] 0 w70.drew fun w87 => next68 ((wrap .i64 (z66.1 + 1)), ()) w87))))) (bcase (n78 == 14) (ldS w70 (((bx g21).add 2).add 0) fun A88 n89 c90 => ((32 : Int) ≠ 0 ∧ (idx (Int.tmod n74 32) n89 A88 fun a91 => stCells (a91.add (((Int.tmod n74 32).toNat) * 1)) [(iv n77)] 0 w70 fun w92 => next68 ((wrap .i64 (z66.1 + 1)), ()) w92))) (bcase (n78 == 15) ((∃ M93 : Nat → Prop, ldSM M93 w70 ((bx g21).add 2) 0 fun A94 n95 c96 => ((32 : Int) ≠ 0 ∧ ldSM M93 w70 ((bx g21).add 2) 0 fun A97 n98 c99 => ((32 : Int) ≠ 0 ∧ (idx (Int.tmod n74 32) n98 A97 fun a100 => ldIM M93 w70 (a100.add (((Int.tmod n74 32).toNat) * 1)) 0 fun n101 => Cl 224 #[(iv n101), (iv n77)] w70.drew fun v102 w103 => (∃ (n104 : Int), v102 = (iv n104) ∧ SameBut M93 w70 w103 ∧ (idx (Int.tmod n74 32) n95 A94 fun a105 => stCells (a105.add (((Int.tmod n74 32).toNat) * 1)) [(iv n104)] 0 w103 fun w106 => next68 ((wrap .i64 (z66.1 + 1)), ()) w106))))))) (next68 ((wrap .i64 (z66.1 + 1)), ()) w70)))))))) (ldB w67 (bx g21) fun A107 n108 c109 A110 n111 c112 A113 n114 c115 n116 n117 => stCells (bx g23) [(sv A107 n108 c109), (sv A110 n111 c112), (sv A113 n114 c115), (iv n116), (iv n117)] 0 w67 fun w118 => ldB w118 (bx g23) fun A119 n120 c121 A122 n123 c124 A125 n126 c127 n128 n129 => K (.agg (vB A119 n120 c121 A122 n123 c124 A125 n126 c127 n128 n129)) w118)) (0, ()) w57))))

def spec_l30Memory.ann : Ann := (.seq .l (.seq .l (.seq .l (.seq .l (.seq (.seq .l (.one (.loop [(8, .int .i64)] (.seq (.seq .l (.two .l .l)) (.seq (.one (.seq (.seq .l (.two .l .l)) (.seq .l (.seq .l (.seq .l (.one (.seq .l (.two .l (.seq .l (.two .l (.seq .l (.two .l .l)))))))))))) .l))))) (.seq .l .l))))))

theorem spec_l30Memory.con {s0 : D.Block} {A0_0 A0_1 A0_2 : OA} {c0_0 c0_1 c0_2 : Nat} {F0_1 : Nat → Prop} {x1 : Int} {r : D.Block × (List D.Warp) × (List Int)} {w : World} (hp : M.spec_l30Memory_pre s0 x1) (hr : r = M.spec_l30Memory s0 x1) (R0_0 : Row el84 w A0_0 s0.Code) (hc0_0 : s0.Code.length ≤ c0_0) (O2 : OwnW 52 el91 el3 w 0 F0_1 A0_1 c0_1 s0.Warps) (O3 : Own el3 w 0 A0_2 c0_2 s0.Memory) (N2_3 : Dis (InW A0_1 F0_1) (InB A0_2)) (D0_0 : s0.Code ≠ [] → ∀ g, InB A0_0 g → ¬ (fun k_ => InW A0_1 F0_1 k_ ∨ InB A0_2 k_) g) :
    Cl 201 #[(.agg (bC A0_0 c0_0 A0_1 c0_1 A0_2 c0_2 s0)), (iv x1)] w (fun v_ w_ => v_ = (.agg #[(sv A0_0 s0.Code.length c0_0), (sv A0_1 s0.Warps.length c0_1), (sv A0_2 s0.Memory.length c0_2), (iv r.1.Waiting), (iv r.1.Phase)]) ∧ OwnW 52 el91 el3 w_ 0 F0_1 A0_1 c0_1 r.2.1 ∧ r.2.1.length = s0.Warps.length ∧ Own el3 w_ 0 A0_2 c0_2 r.2.2 ∧ r.2.2.length = s0.Memory.length ∧ Chg (fun k_ => InW A0_1 F0_1 k_ ∨ InB A0_2 k_) w w_) := by
 have H := wp.spec_l30Memory.math s0 x1 hp
 refine begK mixed Tryz.f201 ann (vc A0_0 s0.Code.length c0_0 A0_1 s0.Warps.length c0_1 A0_2 s0.Memory.length c0_2 s0.Waiting s0.Phase x1) ?_
 unfold vc
 unfold wp.spec_l30Memory at H
 have LM2 := MovW.refl w (InW A0_1 F0_1)
 refine newBlk (fun g4_ w21 L4 O4 e22 => ?_)
 have N3_4 := O3.apart_new L4
 have O3 := O3.ext e22
 have hB := (Chg.refl (fun k_ => InW A0_1 F0_1 k_ ∨ InB A0_2 k_) w).then e22
 refine newBlk (fun g5_ w23 L5 P5 e24 => ?_)
 have N3_5 := O3.apart_new L5
 have O2 := (O2.ext e22).ext e24
 have O3 := O3.ext e24
 have O4 := O4.ext e24
 have L5 := Nat.le_trans hB.size L5
 have hB := hB.then e24
 refine ⟨_, _, _, (O4.a 0), _, _, _, (O4.a 1), _, _, _, (O4.a 2), _, (O4.a 3), _, (O4.a 4), ?_⟩
 obtain ⟨hp27, H⟩ := H
 obtain ⟨r25, hr26, H⟩ := callO H
 refine (spec_l30Next.con hp27 hr26 (R0_0.chgS hB D0_0) hc0_0 O2.row O2.le O3.row O3.le).mono ?_
 rintro _ w28 ⟨rfl, e29⟩
 have O2 := O2.ext e29
 have O3 := O3.ext e29
 have O4 := O4.ext e29
 have O5 := P5.ext e29
 have hB := hB.then e29
 refine ⟨r25.Op, trivial, r25.A, trivial, r25.B, trivial, r25.C, trivial, rfl, ?_⟩
 refine newBlk (fun g6_ w30 L6 P6 e31 => ?_)
 have N2_6 := O2.dis_newbox L6
 have N3_6 := O3.apart_new L6
 have N4_6 := O4.ne L6
 have N5_6 := O5.ne L6
 have O3 := O3.ext e31
 have O4 := O4.ext e31
 have O6 := P6
 have L6 := Nat.le_trans hB.size L6
 refine stBlk O6 (o := 0) (cs' := (iC r25)) rfl rfl (Nat.le_of_ble_eq_true rfl) rfl (fun w32 O6 e33 => ?_)
 have O2 := (O2.ext e31).chg e33 N2_6
 have O3_ := O3.chg e33 N3_6
 have O4_ := O4.chg e33 N4_6
 have O4 := O4_
 refine ⟨_, _, _, (O4.a 1), ?_⟩
 obtain ⟨⟨h0_34, h1_35⟩, H⟩ := H
 obtain ⟨g7_, o7_, z7_, A8_, c8_, A9_, c9_, R7_, G10_, hA10, ha10, ho10, O7, O8, O9, O10, hF10, N10_8, N10_9, N10_7, L7⟩ := OwnW.focus O2 h0_34 h1_35 (by decide) (by decide) (by decide)
 have LM9 := LM2.sub (r_sub hF10)
 have N10_3 := dis_sub N2_3 (hole_sub hF10)
 have N9_3 := dis_ap2 (dis_sub N2_3 (r_sub hF10))
 refine ⟨h0_34, h1_35, (⟨g7_, z7_, none⟩ : Addr), hA10, ?_⟩
 try dsimp only
 try rw [ha10]
 refine ⟨_, (O7.a 0), _, _, _, (O7.a 1), _, _, _, (O7.a 2), ?_⟩
 obtain ⟨hp38, H⟩ := H
 obtain ⟨r36, hr37, H⟩ := callO H
 refine (cllA (spec_ActiveMask.con hp38 hr37 O8.row O8.le O9.row O9.le)).mono ?_
 rintro _ w39 ⟨rfl, e40⟩
 have O3 := O3_.ext e40
 have O4 := O4.ext e40
 have O5 := ((O5.ext e31).chg e33 N5_6).ext e40
 have O6 := O6.ext e40
 have O7 := O7.ext e40
 have O8 := O8.ext e40
 have O9 := O9.ext e40
 have O10 := O10.ext e40
 have hB := ((hB.then e31).chgb e33 (Or.inl L6)).then e40
 refine ⟨r36, rfl, _, _, _, (O4.a 1), ?_⟩
 obtain ⟨⟨h0_41, h1_42⟩, H⟩ := H
 refine ⟨h0_41, (by first | exact h1_42 | omega | (simp at h1_42 ⊢; omega)), (⟨g7_, z7_, none⟩ : Addr), hA10, ?_⟩
 try dsimp only
 try rw [ha10]
 refine ⟨_, _, _, (O7.a 2), ?_⟩
 obtain ⟨J141, ⟨m246, hJ245⟩, hS142⟩ := H
 refine ⟨fun m_ z_ w_ => ∃ (i135 : Int) (xs136 xs138 : List Int), z_ = (i135, ()) ∧ J141 m_ (i135, xs136, xs138, ()) ∧ Chg (fun k_ => InW A0_1 F0_1 k_ ∨ InB A0_2 k_) w w_ ∧ Own el3 w_ 0 A0_2 c0_2 xs136 ∧ s0.Memory.length = xs136.length ∧ Own el3 w_ 0 A9_ c9_ xs138 ∧ (rd s0.Warps x1).Regs.length = xs138.length ∧ MovW w (InW A0_1 F0_1) (InB A9_) ∧ Blk w_ g4_ 33 (bC A0_0 c0_0 A0_1 c0_1 A0_2 c0_2 s0) ∧ Blk w_ g5_ 33 zC ∧ Blk w_ g6_ 84 (iC r25) ∧ Plc w_ g7_ o7_ 52 R7_ #[(iv ((rd s0.Warps x1).Number)), (sv A8_ ((rd s0.Warps x1).Frames.length) c8_), (sv A9_ ((rd s0.Warps x1).Regs.length) c9_)] ∧ Own el91 w_ 0 A8_ c8_ ((rd s0.Warps x1).Frames) ∧ HoleW 52 el91 el3 w_ 0 G10_ A0_1 c0_1 s0.Warps ((x1.toNat)) R7_, ⟨m246, 0, s0.Memory, (rd s0.Warps x1).Regs, rfl, hJ245, hB, O3, (by first | rfl | assumption | omega | (simp; done) | (simp; omega) | (simp; assumption)), O9, (by first | rfl | assumption | omega | (simp; done) | (simp; omega) | (simp; assumption)), LM9, O4, O5, O6, (by first | exact O7 | (simp only [bC, wC, List.length_set]; exact O7)), O8, O10⟩, ?_⟩
 rintro m140 _ w144 ⟨i135, xs136, xs138, rfl, hJ247, hB, O3, hn137, O9, hn139, LM9, O4, O5, O6, O7, O8, O10⟩
 have H := hS142 m140 _ hJ247
 clear hS142 hJ247
 try dsimp only at H ⊢
 refine brc H (fun h H => ?_) fun h H => ?_
 ·obtain ⟨r145, hr146, H⟩ := callO H
  refine (spec_HasLane.con hr146 ).mono ?_
  rintro _ w148 ⟨rfl, e149⟩
  have O3 := O3.ext e149
  have O4 := O4.ext e149
  have O5 := O5.ext e149
  have O6 := O6.ext e149
  have O7 := O7.ext e149
  have O8 := O8.ext e149
  have O9 := O9.ext e149
  have O10 := O10.ext e149
  have hB := hB.then e149
  refine ⟨r145, rfl, ?_⟩
  refine brc H (fun h H => ?_) fun h H => ?_
  ·obtain ⟨m150, hm151, hJ152⟩ := H
   exact ⟨m150, hm151, _, _, _, rfl, hJ152, hB, O3, (by first | rfl | assumption | omega | (simp; done) | (simp; omega) | (simp; assumption)), O9, (by first | rfl | assumption | omega | (simp; done) | (simp; omega) | (simp; assumption)), LM9, (by first | exact O4 | (simp only [bC, wC, List.length_set, ← hn137]; exact O4)), O5, O6, (by first | exact O7 | (simp only [bC, wC, List.length_set, ← hn139]; exact O7)), O8, O10⟩
  refine ⟨_, (O6.a 1), ?_⟩
  obtain ⟨⟨h0_156, h1_157⟩, H⟩ := H
  obtain ⟨a154, ha155, hat153⟩ := Row.at O9.row h0_156 h1_157
  refine ⟨h0_156, (by first | exact h1_157 | omega | (simp at h1_157 ⊢; omega)), a154, ha155, _, (hat153 0 _ rfl), _, (O6.a 2), ?_⟩
  obtain ⟨⟨h0_161, h1_162⟩, H⟩ := H
  obtain ⟨a159, ha160, hat158⟩ := Row.at O9.row h0_161 h1_162
  refine ⟨h0_161, (by first | exact h1_162 | omega | (simp at h1_162 ⊢; omega)), a159, ha160, _, (hat158 0 _ rfl), _, (O6.a 0), ?_⟩
  refine brc H (fun h H => ?_) fun h H => ?_
  ·refine ⟨(fun _ => False), _, noM (O6.a 1), _, _, _, noM (O4.a 2), by decide, ?_⟩
   obtain ⟨⟨h0_168, h1_169⟩, H⟩ := H
   obtain ⟨a166, ha167, hat165⟩ := Row.at O3.row h0_168 h1_169
   refine ⟨h0_168, (by first | exact h1_169 | omega | (simp at h1_169 ⊢; omega)), a166, ha167, _, ⟨(fun h_ => h_), (hat165 0 _ rfl)⟩, ?_⟩
   obtain ⟨⟨h0_173, h1_174⟩, H⟩ := H
   obtain ⟨a171, ha172, hat170⟩ := Row.at O9.row h0_173 h1_174
   refine ⟨h0_173, (by first | exact h1_174 | omega | (simp at h1_174 ⊢; omega)), a171, ha172, ?_⟩
   have O4 := O4.ext (Ext.drew _)
   have O5 := O5.ext (Ext.drew _)
   have O6 := O6.ext (Ext.drew _)
   have O7 := O7.ext (Ext.drew _)
   have O8 := O8.ext (Ext.drew _)
   have O9 := O9.ext (Ext.drew _)
   refine Own.stA O9 ha172 h0_173 h1_174 0 (rd xs136 (Int.tmod (rd xs138 (wrap .i64 ((wrap .i64 (i135 * 4)) + r25.B))) 32)) (fun w175 P9 e176 hb177 => ?_)
   have O3 := (O3.ext (Ext.drew _)).chg e176 (((N9_3).symm).left ha172)
   have O4 := O4.chg e176 (fun h_ => ((O9.apart_type O4 (by decide))) _ ha172 h_.symm)
   have O5 := O5.chg e176 (fun h_ => ((O9.apart_type O5 (by decide))) _ ha172 h_.symm)
   have O6 := O6.chg e176 (fun h_ => ((O9.apart_type O6 (by decide))) _ ha172 h_.symm)
   have O7 := O7.chg e176 (fun h_ => ((O9.apart_type O7.b (by decide))) _ ha172 h_.symm)
   have O8 := O8.chg e176 (((Own.apart2_type O8 O9 (by decide))).left ha172)
   have O10 := (O10.ext (Ext.drew _)).chg e176 (fun h_ => N10_9 _ h_ ⟨_, ha172, rfl⟩)
   have hB := (hB.then (Ext.drew _)).chgb e176 ((LM9 _ ⟨_, ha172, rfl⟩).elim (fun h4_ => Or.inr (Or.inl h4_)) Or.inl)
   have O9 := P9
   obtain ⟨m178, hm179, hJ180⟩ := H
   exact ⟨m178, hm179, _, _, _, rfl, hJ180, hB, O3, (by first | rfl | assumption | omega | (simp; done) | (simp; omega) | (simp; assumption)), O9, (by first | rfl | assumption | omega | (simp; done) | (simp; omega) | (simp; assumption)), LM9, (by first | exact O4 | (simp only [bC, wC, List.length_set, ← hn137]; exact O4)), O5, O6, (by first | exact O7 | (simp only [bC, wC, List.length_set, ← hn139]; exact O7)), O8, O10⟩
  refine brc H (fun h H => ?_) fun h H => ?_
  ·refine ⟨_, _, _, (O4.a 2), by decide, ?_⟩
   obtain ⟨⟨h0_185, h1_186⟩, H⟩ := H
   obtain ⟨a183, ha184, hat182⟩ := Row.at O3.row h0_185 h1_186
   refine ⟨h0_185, (by first | exact h1_186 | omega | (simp at h1_186 ⊢; omega)), a183, ha184, ?_⟩
   refine Own.stA O3 ha184 h0_185 h1_186 0 (rd xs138 (wrap .i64 ((wrap .i64 (i135 * 4)) + r25.B))) (fun w187 P3 e188 hb189 => ?_)
   have O4 := O4.chg e188 (fun h_ => (N3_4) _ ha184 h_.symm)
   have O5 := O5.chg e188 (fun h_ => (N3_5) _ ha184 h_.symm)
   have O6 := O6.chg e188 (fun h_ => (N3_6) _ ha184 h_.symm)
   have O7 := O7.chg e188 (fun h_ => ((O3.apart_type O7.b (by decide))) _ ha184 h_.symm)
   have O8 := O8.chg e188 (((Own.apart2_type O8 O3 (by decide))).left ha184)
   have O9 := O9.chg e188 ((N9_3).left ha184)
   have O10 := O10.chg e188 (fun h_ => N10_3 _ h_ ⟨_, ha184, rfl⟩)
   have hB := hB.chgb e188 (Or.inr (Or.inr ⟨_, ha184, rfl⟩))
   have O3 := P3
   obtain ⟨m190, hm191, hJ192⟩ := H
   exact ⟨m190, hm191, _, _, _, rfl, hJ192, hB, O3, (by first | rfl | assumption | omega | (simp; done) | (simp; omega) | (simp; assumption)), O9, (by first | rfl | assumption | omega | (simp; done) | (simp; omega) | (simp; assumption)), LM9, (by first | exact O4 | (simp only [bC, wC, List.length_set, ← hn137]; exact O4)), O5, O6, (by first | exact O7 | (simp only [bC, wC, List.length_set, ← hn139]; exact O7)), O8, O10⟩
  refine brc H (fun h H => ?_) fun h H => ?_
  ·refine ⟨(fun _ => False), ?_⟩
   have hBz := hB
   have Z3 := O3
   refine ⟨_, _, _, noM (O4.a 2), by decide, _, _, _, noM (O4.a 2), by decide, ?_⟩
   obtain ⟨⟨h0_216, h1_217⟩, H⟩ := H
   obtain ⟨a214, ha215, hat213⟩ := Row.at O3.row h0_216 h1_217
   refine ⟨h0_216, (by first | exact h1_217 | omega | (simp at h1_217 ⊢; omega)), a214, ha215, _, ⟨(fun h_ => h_), (hat213 0 _ rfl)⟩, ?_⟩
   have O3 := O3.ext (Ext.drew _)
   have O4 := O4.ext (Ext.drew _)
   have O5 := O5.ext (Ext.drew _)
   have O6 := O6.ext (Ext.drew _)
   have O7 := O7.ext (Ext.drew _)
   have O8 := O8.ext (Ext.drew _)
   have O9 := O9.ext (Ext.drew _)
   have O10 := O10.ext (Ext.drew _)
   have hB := hB.then (Ext.drew _)
   have hS193 := (Chg.refl (fun _ => False) w148).then (Ext.drew _)
   obtain ⟨r218, hr219, H⟩ := callO H
   refine (spec_AddWords.con hr219 ).mono ?_
   rintro _ w221 ⟨rfl, e222⟩
   have O3 := O3.ext e222
   have O7 := O7.ext e222
   have O8 := O8.ext e222
   have hS193 := hS193.then e222
   refine ⟨r218, rfl, sameBut_chg hS193, ?_⟩
   obtain ⟨⟨h0_226, h1_227⟩, H⟩ := H
   obtain ⟨a224, ha225, hat223⟩ := Row.at Z3.row h0_226 h1_227
   refine ⟨h0_226, (by first | exact h1_227 | omega | (simp at h1_227 ⊢; omega)), a224, ha225, ?_⟩
   refine Own.stA O3 ha225 h0_226 h1_227 0 r218 (fun w228 P3 e229 hb230 => ?_)
   have O4 := (O4.ext e222).chg e229 (fun h_ => (N3_4) _ ha225 h_.symm)
   have O5 := (O5.ext e222).chg e229 (fun h_ => (N3_5) _ ha225 h_.symm)
   have O6 := (O6.ext e222).chg e229 (fun h_ => (N3_6) _ ha225 h_.symm)
   have O7 := O7.chg e229 (fun h_ => ((O3.apart_type O7.b (by decide))) _ ha225 h_.symm)
   have O8 := O8.chg e229 (((Own.apart2_type O8 O3 (by decide))).left ha225)
   have O9 := (O9.ext e222).chg e229 ((N9_3).left ha225)
   have O10 := (O10.ext e222).chg e229 (fun h_ => N10_3 _ h_ ⟨_, ha225, rfl⟩)
   have hB := (hB.then e222).chgb e229 (Or.inr (Or.inr ⟨_, ha225, rfl⟩))
   have O3 := P3
   obtain ⟨m231, hm232, hJ233⟩ := H
   exact ⟨m231, hm232, _, _, _, rfl, hJ233, hB, O3, (by first | rfl | assumption | omega | (simp; done) | (simp; omega) | (simp; assumption)), O9, (by first | rfl | assumption | omega | (simp; done) | (simp; omega) | (simp; assumption)), LM9, (by first | exact O4 | (simp only [bC, wC, List.length_set, ← hn137]; exact O4)), O5, O6, (by first | exact O7 | (simp only [bC, wC, List.length_set, ← hn139]; exact O7)), O8, O10⟩
  obtain ⟨m234, hm235, hJ236⟩ := H
  exact ⟨m234, hm235, _, _, _, rfl, hJ236, hB, O3, (by first | rfl | assumption | omega | (simp; done) | (simp; omega) | (simp; assumption)), O9, (by first | rfl | assumption | omega | (simp; done) | (simp; omega) | (simp; assumption)), LM9, (by first | exact O4 | (simp only [bC, wC, List.length_set, ← hn137]; exact O4)), O5, O6, (by first | exact O7 | (simp only [bC, wC, List.length_set, ← hn139]; exact O7)), O8, O10⟩
 refine ⟨_, _, _, (O4.a 0), _, _, _, (O4.a 1), _, _, _, (O4.a 2), _, (O4.a 3), _, (O4.a 4), ?_⟩
 refine stB O5 0 (bC A0_0 c0_0 A0_1 c0_1 A0_2 c0_2 s0) (fun w241 P5 e242 => ?_)
 have O3 := O3.chg e242 N3_5
 have O7 := O7.chg e242 (Blk.ne_type O7.b O5 (by decide))
 have O8 := O8.chg e242 (O8.apart_type O5 (by decide))
 have O9 := O9.chg e242 (O9.apart_type O5 (by decide))
 have O10 := O10.chg e242 (O10.dis_blk O5 (by decide) (by decide) (by decide))
 have hB := hB.chgb e242 (Or.inl L5)
 have O5 := P5
 have O2 := (HoleW.back O10 hA10 ho10 O7 O8 O9 (by first | rfl | (simp only [bC, wC, List.length_set]; done) | (simp; done) | (simp; omega)) (by first | rfl | (simp only [bC, wC, List.length_set, ← hn139]; done) | (simp; done) | (simp; omega)) (fun _ _ => Nat.zero_le _) (fun _ _ => Nat.zero_le _) (by decide) (by decide) (by decide) N10_8 N10_9).sameF hF10
 refine ⟨_, _, _, (O5.a 0), _, _, _, (O5.a 1), _, _, _, (O5.a 2), _, (O5.a 3), _, (O5.a 4), ?_⟩
 cases hr.trans H.symm
 exact ⟨rfl, O2, (by first | (simp only [bC, wC, List.length_set]; done) | (simp only [bC, wC, List.length_set, List.length_set]; done) | (simp; done) | (simp; omega) | omega), O3, (by first | (simp only [bC, wC, List.length_set]; done) | (simp only [bC, wC, List.length_set, ← hn137]; done) | (simp; done) | (simp; omega) | omega), hB⟩
end Go.V
