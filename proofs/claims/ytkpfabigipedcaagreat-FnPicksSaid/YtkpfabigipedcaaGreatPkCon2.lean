import Derived.Test.YtkpfabigipedcaaGreatPkCon1
namespace Go.V
open Go.Proofs
open IntKind (wrap)
set_option linter.unusedVariables false
set_option linter.unusedSimpArgs false
set_option maxRecDepth 100000
def qdj.vc (A0_0 : OA) (n0_0 c0_0 : Nat) (A0_1 : OA) (n0_1 c0_1 : Nat) (A0_2 : OA) (n0_2 c0_2 : Nat) (x0_3 x0_4 : Int) (w : World) (K : VK) : Prop :=
  newK w (.cells (vB A0_0 n0_0 c0_0 A0_1 n0_1 c0_1 A0_2 n0_2 c0_2 x0_3 x0_4) 33) fun g21 w22 => newK w22 (.cells zC 33) fun g23 w24 => qfL (σ := Addr × Unit) (fun J25 => (∃ M26 : Nat → Prop, ldSM M26 w24 ((bx g21).add 0) 0 fun A27 n28 c29 => ldSM M26 w24 ((bx g21).add 2) 0 fun A30 n31 c32 => ldIM M26 w24 ((bx g21).add 3) 0 fun n33 => ldIM M26 w24 ((bx g21).add 4) 0 fun n34 => ((Run Tryz.prog (Instr.buildSlice 30 0 #[]) w24.drew fun v35 w36 => ∃ (A37 : OA) (n38 c39 : Nat), v35 = .slice A37 n38 c39 ∧ qac M26 w24 w36 ∧ ((Run Tryz.prog (Builtin.append_ #[30, 30] 30 #[(sv A37 n38 c39), (sv A27 n28 c29)]) w36 fun v40 w41 => ∃ (A42 : OA) (n43 c44 : Nat), v40 = .slice A42 n43 c44 ∧ qac M26 w24 w41 ∧ ((Run Tryz.prog (Instr.buildSlice 24 0 #[]) w41 fun v45 w46 => ∃ (A47 : OA) (n48 c49 : Nat), v45 = .slice A47 n48 c49 ∧ qac M26 w24 w46 ∧ ((Run Tryz.prog (Builtin.append_ #[24, 24] 24 #[(sv A47 n48 c49), (sv A30 n31 c32)]) w46 fun v50 w51 => ∃ (A52 : OA) (n53 c54 : Nat), v50 = .slice A52 n53 c54 ∧ qac M26 w24 w51 ∧ newK w51 (.cells zC 33) fun g55 w56 => qac M26 w24 w56 ∧ qa7 (bx g55) [(sv A42 n43 c44), (sv none 0 0), (sv A52 n53 c54), (iv n33), (iv n34)] 0 w56 fun w57 => J25 ((bx g55), ()) w57) ∧ (newK w46 (.cells zC 33) fun g58 w59 => qac M26 w24 w59 ∧ Run Tryz.prog (Builtin.append_ #[24, 24] 24 #[(sv A47 n48 c49), (sv A30 n31 c32)]) w59 fun v60 w61 => ∃ (A62 : OA) (n63 c64 : Nat), v60 = .slice A62 n63 c64 ∧ qac M26 w24 w61 ∧ qa7 (bx g58) [(sv A42 n43 c44), (sv none 0 0), (sv A62 n63 c64), (iv n33), (iv n34)] 0 w61 fun w65 => J25 ((bx g58), ()) w65) ∧ True)) ∧ (newK w41 (.cells zC 33) fun g66 w67 => qac M26 w24 w67 ∧ Run Tryz.prog (Instr.buildSlice 24 0 #[]) w67 fun v68 w69 => ∃ (A70 : OA) (n71 c72 : Nat), v68 = .slice A70 n71 c72 ∧ qac M26 w24 w69 ∧ Run Tryz.prog (Builtin.append_ #[24, 24] 24 #[(sv A70 n71 c72), (sv A30 n31 c32)]) w69 fun v73 w74 => ∃ (A75 : OA) (n76 c77 : Nat), v73 = .slice A75 n76 c77 ∧ qac M26 w24 w74 ∧ qa7 (bx g66) [(sv A42 n43 c44), (sv none 0 0), (sv A75 n76 c77), (iv n33), (iv n34)] 0 w74 fun w78 => J25 ((bx g66), ()) w78) ∧ True)) ∧ (Run Tryz.prog (Instr.buildSlice 24 0 #[]) w36 fun v79 w80 => ∃ (A81 : OA) (n82 c83 : Nat), v79 = .slice A81 n82 c83 ∧ qac M26 w24 w80 ∧ ((Run Tryz.prog (Builtin.append_ #[30, 30] 30 #[(sv A37 n38 c39), (sv A27 n28 c29)]) w80 fun v84 w85 => ∃ (A86 : OA) (n87 c88 : Nat), v84 = .slice A86 n87 c88 ∧ qac M26 w24 w85 ∧ ((Run Tryz.prog (Builtin.append_ #[24, 24] 24 #[(sv A81 n82 c83), (sv A30 n31 c32)]) w85 fun v89 w90 => ∃ (A91 : OA) (n92 c93 : Nat), v89 = .slice A91 n92 c93 ∧ qac M26 w24 w90 ∧ newK w90 (.cells zC 33) fun g94 w95 => qac M26 w24 w95 ∧ qa7 (bx g94) [(sv A86 n87 c88), (sv none 0 0), (sv A91 n92 c93), (iv n33), (iv n34)] 0 w95 fun w96 => J25 ((bx g94), ()) w96) ∧ (newK w85 (.cells zC 33) fun g97 w98 => qac M26 w24 w98 ∧ Run Tryz.prog (Builtin.append_ #[24, 24] 24 #[(sv A81 n82 c83), (sv A30 n31 c32)]) w98 fun v99 w100 => ∃ (A101 : OA) (n102 c103 : Nat), v99 = .slice A101 n102 c103 ∧ qac M26 w24 w100 ∧ qa7 (bx g97) [(sv A86 n87 c88), (sv none 0 0), (sv A101 n102 c103), (iv n33), (iv n34)] 0 w100 fun w104 => J25 ((bx g97), ()) w104) ∧ True)) ∧ (newK w80 (.cells zC 33) fun g105 w106 => qac M26 w24 w106 ∧ Run Tryz.prog (Builtin.append_ #[30, 30] 30 #[(sv A37 n38 c39), (sv A27 n28 c29)]) w106 fun v107 w108 => ∃ (A109 : OA) (n110 c111 : Nat), v107 = .slice A109 n110 c111 ∧ qac M26 w24 w108 ∧ Run Tryz.prog (Builtin.append_ #[24, 24] 24 #[(sv A81 n82 c83), (sv A30 n31 c32)]) w108 fun v112 w113 => ∃ (A114 : OA) (n115 c116 : Nat), v112 = .slice A114 n115 c116 ∧ qac M26 w24 w113 ∧ qa7 (bx g105) [(sv A109 n110 c111), (sv none 0 0), (sv A114 n115 c116), (iv n33), (iv n34)] 0 w113 fun w117 => J25 ((bx g105), ()) w117) ∧ True)) ∧ (newK w36 (.cells zC 33) fun g118 w119 => qac M26 w24 w119 ∧ ((Run Tryz.prog (Builtin.append_ #[30, 30] 30 #[(sv A37 n38 c39), (sv A27 n28 c29)]) w119 fun v120 w121 => ∃ (A122 : OA) (n123 c124 : Nat), v120 = .slice A122 n123 c124 ∧ qac M26 w24 w121 ∧ Run Tryz.prog (Instr.buildSlice 24 0 #[]) w121 fun v125 w126 => ∃ (A127 : OA) (n128 c129 : Nat), v125 = .slice A127 n128 c129 ∧ qac M26 w24 w126 ∧ Run Tryz.prog (Builtin.append_ #[24, 24] 24 #[(sv A127 n128 c129), (sv A30 n31 c32)]) w126 fun v130 w131 => ∃ (A132 : OA) (n133 c134 : Nat), v130 = .slice A132 n133 c134 ∧ qac M26 w24 w131 ∧ qa7 (bx g118) [(sv A122 n123 c124), (sv none 0 0), (sv A132 n133 c134), (iv n33), (iv n34)] 0 w131 fun w135 => J25 ((bx g118), ()) w135) ∧ (Run Tryz.prog (Instr.buildSlice 24 0 #[]) w119 fun v136 w137 => ∃ (A138 : OA) (n139 c140 : Nat), v136 = .slice A138 n139 c140 ∧ qac M26 w24 w137 ∧ Run Tryz.prog (Builtin.append_ #[30, 30] 30 #[(sv A37 n38 c39), (sv A27 n28 c29)]) w137 fun v141 w142 => ∃ (A143 : OA) (n144 c145 : Nat), v141 = .slice A143 n144 c145 ∧ qac M26 w24 w142 ∧ Run Tryz.prog (Builtin.append_ #[24, 24] 24 #[(sv A138 n139 c140), (sv A30 n31 c32)]) w142 fun v146 w147 => ∃ (A148 : OA) (n149 c150 : Nat), v146 = .slice A148 n149 c150 ∧ qac M26 w24 w147 ∧ qa7 (bx g118) [(sv A143 n144 c145), (sv none 0 0), (sv A148 n149 c150), (iv n33), (iv n34)] 0 w147 fun w151 => J25 ((bx g118), ()) w151) ∧ True)) ∧ True)) ∧ (Run Tryz.prog (Instr.buildSlice 24 0 #[]) w24.drew fun v152 w153 => ∃ (A154 : OA) (n155 c156 : Nat), v152 = .slice A154 n155 c156 ∧ qac M26 w24 w153 ∧ ((Run Tryz.prog (Instr.buildSlice 30 0 #[]) w153 fun v157 w158 => ∃ (A159 : OA) (n160 c161 : Nat), v157 = .slice A159 n160 c161 ∧ qac M26 w24 w158 ∧ ((Run Tryz.prog (Builtin.append_ #[30, 30] 30 #[(sv A159 n160 c161), (sv A27 n28 c29)]) w158 fun v162 w163 => ∃ (A164 : OA) (n165 c166 : Nat), v162 = .slice A164 n165 c166 ∧ qac M26 w24 w163 ∧ ((Run Tryz.prog (Builtin.append_ #[24, 24] 24 #[(sv A154 n155 c156), (sv A30 n31 c32)]) w163 fun v167 w168 => ∃ (A169 : OA) (n170 c171 : Nat), v167 = .slice A169 n170 c171 ∧ qac M26 w24 w168 ∧ newK w168 (.cells zC 33) fun g172 w173 => qac M26 w24 w173 ∧ qa7 (bx g172) [(sv A164 n165 c166), (sv none 0 0), (sv A169 n170 c171), (iv n33), (iv n34)] 0 w173 fun w174 => J25 ((bx g172), ()) w174) ∧ (newK w163 (.cells zC 33) fun g175 w176 => qac M26 w24 w176 ∧ Run Tryz.prog (Builtin.append_ #[24, 24] 24 #[(sv A154 n155 c156), (sv A30 n31 c32)]) w176 fun v177 w178 => ∃ (A179 : OA) (n180 c181 : Nat), v177 = .slice A179 n180 c181 ∧ qac M26 w24 w178 ∧ qa7 (bx g175) [(sv A164 n165 c166), (sv none 0 0), (sv A179 n180 c181), (iv n33), (iv n34)] 0 w178 fun w182 => J25 ((bx g175), ()) w182) ∧ True)) ∧ (newK w158 (.cells zC 33) fun g183 w184 => qac M26 w24 w184 ∧ Run Tryz.prog (Builtin.append_ #[30, 30] 30 #[(sv A159 n160 c161), (sv A27 n28 c29)]) w184 fun v185 w186 => ∃ (A187 : OA) (n188 c189 : Nat), v185 = .slice A187 n188 c189 ∧ qac M26 w24 w186 ∧ Run Tryz.prog (Builtin.append_ #[24, 24] 24 #[(sv A154 n155 c156), (sv A30 n31 c32)]) w186 fun v190 w191 => ∃ (A192 : OA) (n193 c194 : Nat), v190 = .slice A192 n193 c194 ∧ qac M26 w24 w191 ∧ qa7 (bx g183) [(sv A187 n188 c189), (sv none 0 0), (sv A192 n193 c194), (iv n33), (iv n34)] 0 w191 fun w195 => J25 ((bx g183), ()) w195) ∧ True)) ∧ (newK w153 (.cells zC 33) fun g196 w197 => qac M26 w24 w197 ∧ Run Tryz.prog (Instr.buildSlice 30 0 #[]) w197 fun v198 w199 => ∃ (A200 : OA) (n201 c202 : Nat), v198 = .slice A200 n201 c202 ∧ qac M26 w24 w199 ∧ Run Tryz.prog (Builtin.append_ #[30, 30] 30 #[(sv A200 n201 c202), (sv A27 n28 c29)]) w199 fun v203 w204 => ∃ (A205 : OA) (n206 c207 : Nat), v203 = .slice A205 n206 c207 ∧ qac M26 w24 w204 ∧ Run Tryz.prog (Builtin.append_ #[24, 24] 24 #[(sv A154 n155 c156), (sv A30 n31 c32)]) w204 fun v208 w209 => ∃ (A210 : OA) (n211 c212 : Nat), v208 = .slice A210 n211 c212 ∧ qac M26 w24 w209 ∧ qa7 (bx g196) [(sv A205 n206 c207), (sv none 0 0), (sv A210 n211 c212), (iv n33), (iv n34)] 0 w209 fun w213 => J25 ((bx g196), ()) w213) ∧ True)) ∧ (newK w24.drew (.cells zC 33) fun g214 w215 => qac M26 w24 w215 ∧ ((Run Tryz.prog (Instr.buildSlice 30 0 #[]) w215 fun v216 w217 => ∃ (A218 : OA) (n219 c220 : Nat), v216 = .slice A218 n219 c220 ∧ qac M26 w24 w217 ∧ ((Run Tryz.prog (Builtin.append_ #[30, 30] 30 #[(sv A218 n219 c220), (sv A27 n28 c29)]) w217 fun v221 w222 => ∃ (A223 : OA) (n224 c225 : Nat), v221 = .slice A223 n224 c225 ∧ qac M26 w24 w222 ∧ Run Tryz.prog (Instr.buildSlice 24 0 #[]) w222 fun v226 w227 => ∃ (A228 : OA) (n229 c230 : Nat), v226 = .slice A228 n229 c230 ∧ qac M26 w24 w227 ∧ Run Tryz.prog (Builtin.append_ #[24, 24] 24 #[(sv A228 n229 c230), (sv A30 n31 c32)]) w227 fun v231 w232 => ∃ (A233 : OA) (n234 c235 : Nat), v231 = .slice A233 n234 c235 ∧ qac M26 w24 w232 ∧ qa7 (bx g214) [(sv A223 n224 c225), (sv none 0 0), (sv A233 n234 c235), (iv n33), (iv n34)] 0 w232 fun w236 => J25 ((bx g214), ()) w236) ∧ (Run Tryz.prog (Instr.buildSlice 24 0 #[]) w217 fun v237 w238 => ∃ (A239 : OA) (n240 c241 : Nat), v237 = .slice A239 n240 c241 ∧ qac M26 w24 w238 ∧ Run Tryz.prog (Builtin.append_ #[30, 30] 30 #[(sv A218 n219 c220), (sv A27 n28 c29)]) w238 fun v242 w243 => ∃ (A244 : OA) (n245 c246 : Nat), v242 = .slice A244 n245 c246 ∧ qac M26 w24 w243 ∧ Run Tryz.prog (Builtin.append_ #[24, 24] 24 #[(sv A239 n240 c241), (sv A30 n31 c32)]) w243 fun v247 w248 => ∃ (A249 : OA) (n250 c251 : Nat), v247 = .slice A249 n250 c251 ∧ qac M26 w24 w248 ∧ qa7 (bx g214) [(sv A244 n245 c246), (sv none 0 0), (sv A249 n250 c251), (iv n33), (iv n34)] 0 w248 fun w252 => J25 ((bx g214), ()) w252) ∧ True)) ∧ (Run Tryz.prog (Instr.buildSlice 24 0 #[]) w215 fun v253 w254 => ∃ (A255 : OA) (n256 c257 : Nat), v253 = .slice A255 n256 c257 ∧ qac M26 w24 w254 ∧ Run Tryz.prog (Instr.buildSlice 30 0 #[]) w254 fun v258 w259 => ∃ (A260 : OA) (n261 c262 : Nat), v258 = .slice A260 n261 c262 ∧ qac M26 w24 w259 ∧ Run Tryz.prog (Builtin.append_ #[30, 30] 30 #[(sv A260 n261 c262), (sv A27 n28 c29)]) w259 fun v263 w264 => ∃ (A265 : OA) (n266 c267 : Nat), v263 = .slice A265 n266 c267 ∧ qac M26 w24 w264 ∧ Run Tryz.prog (Builtin.append_ #[24, 24] 24 #[(sv A255 n256 c257), (sv A30 n31 c32)]) w264 fun v268 w269 => ∃ (A270 : OA) (n271 c272 : Nat), v268 = .slice A270 n271 c272 ∧ qac M26 w24 w269 ∧ qa7 (bx g214) [(sv A265 n266 c267), (sv none 0 0), (sv A270 n271 c272), (iv n33), (iv n34)] 0 w269 fun w273 => J25 ((bx g214), ()) w273) ∧ True)) ∧ True))) fun z274 w275 => qdA (σ := Int × Unit) (fun z276 w277 next278 => ldS w277 (((bx g21).add 1).add 0) fun A279 n280 c281 => qa1 (decide (z276.1 < ((n280 : Nat) : Int))) ((∃ M282 : Nat → Prop, ldSM M282 w277 (z274.1.add 1) 0 fun A283 n284 c285 => ldSM M282 w277 ((bx g21).add 1) 0 fun A286 n287 c288 => (idx z276.1 n287 A286 fun a289 => ldIM M282 w277 (a289.add ((z276.1.toNat) * 3)) 0 fun n290 => ldSM M282 w277 (a289.add ((z276.1.toNat) * 3)) 1 fun A291 n292 c293 => ldSM M282 w277 (a289.add ((z276.1.toNat) * 3)) 2 fun A294 n295 c296 => Cl 221 #[(.agg #[(iv n290), (sv A291 n292 c293), (sv A294 n295 c296)])] w277.drew fun v297 w298 => (∃ (n299 : Int), True ∧ ∃ (A300 : OA) (n301 c302 : Nat), True ∧ ∃ (A303 : OA) (n304 c305 : Nat), True ∧ v297 = (.agg #[(iv n299), (sv A300 n301 c302), (sv A303 n304 c305)]) ∧ qac M282 w277 w298 ∧ Run Tryz.prog (Instr.buildSlice 31 1 #[(0, (.agg #[(iv n299), (sv A300 n301 c302), (sv A303 n304 c305)]))]) w298 fun v306 w307 => ∃ (A308 : OA) (n309 c310 : Nat), v306 = .slice A308 n309 c310 ∧ qac M282 w277 w307 ∧ Run Tryz.prog (Builtin.append_ #[31, 31] 31 #[(sv A283 n284 c285), (sv A308 n309 c310)]) w307 fun v311 w312 => ∃ (A313 : OA) (n314 c315 : Nat), v311 = .slice A313 n314 c315 ∧ qac M282 w277 w312 ∧ qa7 (z274.1.add 1) [(sv A313 n314 c315)] 0 w312 fun w316 => next278 ((wrap .i64 (z276.1 + 1)), ()) w316)))) (ldS w277 (z274.1.add 0) fun A317 n318 c319 => ldS w277 (z274.1.add 1) fun A320 n321 c322 => ldS w277 (z274.1.add 2) fun A323 n324 c325 => ldI w277 (z274.1.add 3) fun n326 => ldI w277 (z274.1.add 4) fun n327 => qa7 (bx g23) [(sv A317 n318 c319), (sv A320 n321 c322), (sv A323 n324 c325), (iv n326), (iv n327)] 0 w277 fun w328 => ldB w328 (bx g23) fun A329 n330 c331 A332 n333 c334 A335 n336 c337 n338 n339 => K (.agg (vB A329 n330 c331 A332 n333 c334 A335 n336 c337 n338 n339)) w328)) (0, ()) w275

def qdj.ann : Ann := (.seq .l (.cut [(3, .ptr)] .l (.seq (.seq .l (.one (.loop [(4, .int .i64)] (.seq (.seq .l (.two .l .l)) (.seq (.one .l) .l))))) (.seq .l .l))))

theorem qdj.con {s0 r : D.Block} {A0_0 A0_1 A0_2 : OA} {c0_0 c0_1 c0_2 : Nat} {w : World} (hp : M.qgt s0) (hr : r = M.qdj s0) (R0_0 : Row el84 w A0_0 s0.Code) (hc0_0 : s0.Code.length ≤ c0_0) (R0_1 : RowW 52 el91 el3 w A0_1 s0.Warps) (hc0_1 : s0.Warps.length ≤ c0_1) (R0_2 : Row el3 w A0_2 s0.Memory) (hc0_2 : s0.Memory.length ≤ c0_2) :
    Cl 199 #[(.agg (bC A0_0 c0_0 A0_1 c0_1 A0_2 c0_2 s0))] w (fun v_ w_ => ∃ (A0_ : OA) (c0_ : Nat) (A1_ : OA) (c1_ : Nat) (F1_ : Nat → Prop) (A2_ : OA) (c2_ : Nat), v_ = (.agg (bC A0_ c0_ A1_ c1_ A2_ c2_ r)) ∧ Own el84 w_ w.heap.size A0_ c0_ r.Code ∧ OwnW 52 el91 el3 w_ w.heap.size F1_ A1_ c1_ r.Warps ∧ Own el3 w_ w.heap.size A2_ c2_ r.Memory ∧ Dis (InW A1_ F1_) (InB A2_) ∧ Ext w w_) := by
 have H := wp.qdj.math s0 hp
 refine begK mixed Tryz.f199 ann (vc A0_0 s0.Code.length c0_0 A0_1 s0.Warps.length c0_1 A0_2 s0.Memory.length c0_2 s0.Waiting s0.Phase) ?_
 unfold vc
 unfold wp.qdj at H
 refine qax (fun g4_ w21 L4 O4 e22 => ?_)
 have hB := qa5 (Ext.refl w) e22
 refine qax (fun g5_ w23 L5 P5 e24 => ?_)
 have O4 := O4.ext e24
 have O5 := P5
 have L5 := Nat.le_trans hB.size L5
 have hB := qa5 hB e24
 obtain ⟨K544, hKK544, H⟩ := qcR H
 refine ⟨fun z_ w_ => ∃ (xs25 : List D.Ins) (xs29 : List D.Warp) (xs32 : List Int) (i35 i36 : Int) (g32_ : Nat) (A26 : OA) (c27 : Nat) (A30 : OA) (c31 : Nat) (F28 : Nat → Prop) (A33 : OA) (c34 : Nat), z_ = ((bx g32_), ()) ∧ K544 (xs25, xs29, xs32, i35, i36, ()) ∧ Ext w w_ ∧ Blk w_ g32_ 33 #[(sv A26 xs25.length c27), (sv A30 xs29.length c31), (sv A33 xs32.length c34), (iv i35), (iv i36)] ∧ w.heap.size ≤ g32_ ∧ Own el84 w_ w.heap.size A26 c27 xs25 ∧ OwnW 52 el91 el3 w_ w.heap.size F28 A30 c31 xs29 ∧ Own el3 w_ w.heap.size A33 c34 xs32 ∧ Blk w_ g4_ 33 (bC A0_0 c0_0 A0_1 c0_1 A0_2 c0_2 s0) ∧ Blk w_ g5_ 33 zC ∧ g4_ ≠ g32_ ∧ g5_ ≠ g32_ ∧ Dis (InW A30 F28) (InB A33), ?_, ?_⟩
 ·refine ⟨(fun _ => False), _, _, _, noM (O4.a 0), _, _, _, noM (O4.a 2), _, noM (O4.a 3), _, noM (O4.a 4), ?_⟩
  refine And.intro ?_ ?_
  ·have H := H.1
   have O4 := O4.ext (Ext.drew _)
   have O5 := O5.ext (Ext.drew _)
   have hB := qa5 hB (Ext.drew _)
   have hS40 := (Chg.refl (fun _ => False) w23).then (Ext.drew _)
   refine qap el84 ([] : List D.Ins) (fun _ => by kernel_rfl) rfl (fun A41 w42 P36 e43 => ?_)
   have N36_4 := P36.qa8 O4.lt
   have N36_5 := P36.qa8 O5.lt
   have O4 := O4.ext e43
   have O5 := O5.ext e43
   have LB36 := (P36.mono hS40.size).low
   have O36 := P36.mono hB.size
   have hB := qa5 hB e43
   have hS40 := hS40.then e43
   refine ⟨qa2 hS40, ?_⟩
   refine And.intro ?_ ?_
   ·have H := H.1
    obtain ⟨hl48, H⟩ := H
    refine appO qeh O36 (R0_0.ext hB) hB.size hl48 (fun A44 c45 w46 P36 e47 => ?_)
    have O4 := O4.app e47 N36_4
    have O5 := O5.app e47 N36_5
    have hS40 := hS40.app e47 (fun g h_ => (Or.inl (LB36 g h_)))
    have hB := eapp hB e47 O36
    have O36 := P36
    refine ⟨qa2 hS40, ?_⟩
    refine And.intro ?_ ?_
    ·have H := H.1
     refine qap el3 ([] : List Int) (fun _ => by kernel_rfl) rfl (fun A49 w50 P37 e51 => ?_)
     have N37_4 := P37.qa8 O4.lt
     have N37_5 := P37.qa8 O5.lt
     have N36_37 := aN O36 P37
     have O4 := O4.ext e51
     have O5 := O5.ext e51
     have O36 := O36.ext e51
     have LB37 := (P37.mono hS40.size).low
     have O37 := P37.mono hB.size
     have hB := qa5 hB e51
     have hS40 := hS40.then e51
     refine ⟨qa2 hS40, ?_⟩
     refine And.intro ?_ ?_
     ·have H := H.1
      obtain ⟨hl56, H⟩ := H
      refine appO qdZ O37 (R0_2.ext hB) hB.size hl56 (fun A52 c53 w54 P37 e55 => ?_)
      have O4 := O4.app e55 N37_4
      have O5 := O5.app e55 N37_5
      have O36 := O36.app e55 N36_37
      have hS40 := hS40.app e55 (fun g h_ => (Or.inl (LB37 g h_)))
      have hB := eapp hB e55 O37
      have O37 := P37
      refine ⟨qa2 hS40, ?_⟩
      refine qax (fun g38_ w57 L38 P38 e58 => ?_)
      have N4_38 := O4.ne L38
      have N5_38 := O5.ne L38
      have N36_38 := O36.qag L38
      have N37_38 := O37.qag L38
      have O38 := P38
      have L38 := Nat.le_trans hB.size L38
      have hB := qa5 hB e58
      have hS40 := hS40.then e58
      refine ⟨qa2 hS40, ?_⟩
      refine qbI O38 (o := 0) (cs' := #[(sv A44 (((([] : List D.Ins) ++ s0.Code)).length) c45), (sv none 0 0), (sv A52 (((([] : List Int) ++ s0.Memory)).length) c53), (iv s0.Waiting), (iv s0.Phase)]) rfl rfl (Nat.le_of_ble_eq_true rfl) rfl (fun w59 O38 e60 => ?_)
      have O4 := (O4.ext e58).chg e60 N4_38
      have O5 := (O5.ext e58).chg e60 N5_38
      have O36 := (O36.ext e58).chg e60 N36_38
      have O37 := (O37.ext e58).chg e60 N37_38
      have hB := echg hB e60 L38
      exact ⟨_, [], _, _, _, g38_, A44, c45, none, 0, (fun _ => False), A52, c53, rfl, H, hB, O38, L38, O36, OwnW.nil, O37, O4, O5, N4_38, N5_38, qcc⟩
     refine And.intro ?_ ?_
     ·have H := H.2.1
      refine qax (fun g39_ w61 L39 P39 e62 => ?_)
      have N4_39 := O4.ne L39
      have N5_39 := O5.ne L39
      have N36_39 := O36.qag L39
      have N37_39 := O37.qag L39
      have O37 := O37.ext e62
      have O39 := P39
      have L39 := Nat.le_trans hB.size L39
      have hB := qa5 hB e62
      have hS40 := hS40.then e62
      refine ⟨qa2 hS40, ?_⟩
      obtain ⟨hl67, H⟩ := H
      refine appO qdZ O37 (R0_2.ext hB) hB.size hl67 (fun A63 c64 w65 P37 e66 => ?_)
      have N37_39_ := Apart.app N37_39 e66 O39.lt
      have O39 := O39.app e66 N37_39
      have N37_39 := N37_39_
      have hS40 := hS40.app e66 (fun g h_ => (Or.inl (LB37 g h_)))
      have hB := eapp hB e66 O37
      refine ⟨qa2 hS40, ?_⟩
      refine qbI O39 (o := 0) (cs' := #[(sv A44 (((([] : List D.Ins) ++ s0.Code)).length) c45), (sv none 0 0), (sv A63 (((([] : List Int) ++ s0.Memory)).length) c64), (iv s0.Waiting), (iv s0.Phase)]) rfl rfl (Nat.le_of_ble_eq_true rfl) rfl (fun w68 O39 e69 => ?_)
      have O4 := ((O4.ext e62).app e66 N37_4).chg e69 N4_39
      have O5 := ((O5.ext e62).app e66 N37_5).chg e69 N5_39
      have O36 := ((O36.ext e62).app e66 N36_37).chg e69 N36_39
      have O37 := P37.chg e69 N37_39
      have hB := echg hB e69 L39
      exact ⟨_, [], _, _, _, g39_, A44, c45, none, 0, (fun _ => False), A63, c64, rfl, H, hB, O39, L39, O36, OwnW.nil, O37, O4, O5, N4_39, N5_39, qcc⟩
     exact trivial
    refine And.intro ?_ ?_
    ·have H := H.2.1
     refine qax (fun g40_ w70 L40 P40 e71 => ?_)
     have N4_40 := O4.ne L40
     have N5_40 := O5.ne L40
     have N36_40 := O36.qag L40
     have O4 := O4.ext e71
     have O5 := O5.ext e71
     have O36 := O36.ext e71
     have O40 := P40
     have L40 := Nat.le_trans hB.size L40
     have hB := qa5 hB e71
     have hS40 := hS40.then e71
     refine ⟨qa2 hS40, ?_⟩
     refine qap el3 ([] : List Int) (fun _ => by kernel_rfl) rfl (fun A72 w73 P41 e74 => ?_)
     have N41_4 := P41.qa8 O4.lt
     have N41_5 := P41.qa8 O5.lt
     have N36_41 := aN O36 P41
     have N41_40 := P41.qa8 O40.lt
     have O40 := O40.ext e74
     have LB41 := (P41.mono hS40.size).low
     have O41 := P41.mono hB.size
     have hB := qa5 hB e74
     have hS40 := hS40.then e74
     refine ⟨qa2 hS40, ?_⟩
     obtain ⟨hl79, H⟩ := H
     refine appO qdZ O41 (R0_2.ext hB) hB.size hl79 (fun A75 c76 w77 P41 e78 => ?_)
     have N41_40_ := Apart.app N41_40 e78 O40.lt
     have O40 := O40.app e78 N41_40
     have N41_40 := N41_40_
     have hS40 := hS40.app e78 (fun g h_ => (Or.inl (LB41 g h_)))
     have hB := eapp hB e78 O41
     refine ⟨qa2 hS40, ?_⟩
     refine qbI O40 (o := 0) (cs' := #[(sv A44 (((([] : List D.Ins) ++ s0.Code)).length) c45), (sv none 0 0), (sv A75 (((([] : List Int) ++ s0.Memory)).length) c76), (iv s0.Waiting), (iv s0.Phase)]) rfl rfl (Nat.le_of_ble_eq_true rfl) rfl (fun w80 O40 e81 => ?_)
     have O4 := ((O4.ext e74).app e78 N41_4).chg e81 N4_40
     have O5 := ((O5.ext e74).app e78 N41_5).chg e81 N5_40
     have O36 := ((O36.ext e74).app e78 N36_41).chg e81 N36_40
     have O41 := P41.chg e81 N41_40
     have hB := echg hB e81 L40
     exact ⟨_, [], _, _, _, g40_, A44, c45, none, 0, (fun _ => False), A75, c76, rfl, H, hB, O40, L40, O36, OwnW.nil, O41, O4, O5, N4_40, N5_40, qcc⟩
    exact trivial
   refine And.intro ?_ ?_
   ·have H := H.2.1
    refine qap el3 ([] : List Int) (fun _ => by kernel_rfl) rfl (fun A82 w83 P42 e84 => ?_)
    have N42_4 := P42.qa8 O4.lt
    have N42_5 := P42.qa8 O5.lt
    have N36_42 := aN O36 P42
    have O4 := O4.ext e84
    have O5 := O5.ext e84
    have O36 := O36.ext e84
    have LB42 := (P42.mono hS40.size).low
    have O42 := P42.mono hB.size
    have hB := qa5 hB e84
    have hS40 := hS40.then e84
    refine ⟨qa2 hS40, ?_⟩
    refine And.intro ?_ ?_
    ·have H := H.1
     obtain ⟨hl89, H⟩ := H
     refine appO qeh O36 (R0_0.ext hB) hB.size hl89 (fun A85 c86 w87 P36 e88 => ?_)
     have O4 := O4.app e88 N36_4
     have O5 := O5.app e88 N36_5
     have N42_36 := qcy.app (N36_42).symm e88 O42
     have O42 := O42.app e88 (N36_42).symm
     have hS40 := hS40.app e88 (fun g h_ => (Or.inl (LB36 g h_)))
     have hB := eapp hB e88 O36
     have O36 := P36
     refine ⟨qa2 hS40, ?_⟩
     refine And.intro ?_ ?_
     ·have H := H.1
      obtain ⟨hl94, H⟩ := H
      refine appO qdZ O42 (R0_2.ext hB) hB.size hl94 (fun A90 c91 w92 P42 e93 => ?_)
      have O4 := O4.app e93 N42_4
      have O5 := O5.app e93 N42_5
      have O36 := O36.app e93 (N42_36).symm
      have hS40 := hS40.app e93 (fun g h_ => (Or.inl (LB42 g h_)))
      have hB := eapp hB e93 O42
      have O42 := P42
      refine ⟨qa2 hS40, ?_⟩
      refine qax (fun g43_ w95 L43 P43 e96 => ?_)
      have N4_43 := O4.ne L43
      have N5_43 := O5.ne L43
      have N36_43 := O36.qag L43
      have N42_43 := O42.qag L43
      have O43 := P43
      have L43 := Nat.le_trans hB.size L43
      have hB := qa5 hB e96
      have hS40 := hS40.then e96
      refine ⟨qa2 hS40, ?_⟩
      refine qbI O43 (o := 0) (cs' := #[(sv A85 (((([] : List D.Ins) ++ s0.Code)).length) c86), (sv none 0 0), (sv A90 (((([] : List Int) ++ s0.Memory)).length) c91), (iv s0.Waiting), (iv s0.Phase)]) rfl rfl (Nat.le_of_ble_eq_true rfl) rfl (fun w97 O43 e98 => ?_)
      have O4 := (O4.ext e96).chg e98 N4_43
      have O5 := (O5.ext e96).chg e98 N5_43
      have O36 := (O36.ext e96).chg e98 N36_43
      have O42 := (O42.ext e96).chg e98 N42_43
      have hB := echg hB e98 L43
      exact ⟨_, [], _, _, _, g43_, A85, c86, none, 0, (fun _ => False), A90, c91, rfl, H, hB, O43, L43, O36, OwnW.nil, O42, O4, O5, N4_43, N5_43, qcc⟩
     refine And.intro ?_ ?_
     ·have H := H.2.1
      refine qax (fun g44_ w99 L44 P44 e100 => ?_)
      have N4_44 := O4.ne L44
      have N5_44 := O5.ne L44
      have N36_44 := O36.qag L44
      have N42_44 := O42.qag L44
      have O42 := O42.ext e100
      have O44 := P44
      have L44 := Nat.le_trans hB.size L44
      have hB := qa5 hB e100
      have hS40 := hS40.then e100
      refine ⟨qa2 hS40, ?_⟩
      obtain ⟨hl105, H⟩ := H
      refine appO qdZ O42 (R0_2.ext hB) hB.size hl105 (fun A101 c102 w103 P42 e104 => ?_)
      have N42_44_ := Apart.app N42_44 e104 O44.lt
      have O44 := O44.app e104 N42_44
      have N42_44 := N42_44_
      have hS40 := hS40.app e104 (fun g h_ => (Or.inl (LB42 g h_)))
      have hB := eapp hB e104 O42
      refine ⟨qa2 hS40, ?_⟩
      refine qbI O44 (o := 0) (cs' := #[(sv A85 (((([] : List D.Ins) ++ s0.Code)).length) c86), (sv none 0 0), (sv A101 (((([] : List Int) ++ s0.Memory)).length) c102), (iv s0.Waiting), (iv s0.Phase)]) rfl rfl (Nat.le_of_ble_eq_true rfl) rfl (fun w106 O44 e107 => ?_)
      have O4 := ((O4.ext e100).app e104 N42_4).chg e107 N4_44
      have O5 := ((O5.ext e100).app e104 N42_5).chg e107 N5_44
      have O36 := ((O36.ext e100).app e104 (N42_36).symm).chg e107 N36_44
      have O42 := P42.chg e107 N42_44
      have hB := echg hB e107 L44
      exact ⟨_, [], _, _, _, g44_, A85, c86, none, 0, (fun _ => False), A101, c102, rfl, H, hB, O44, L44, O36, OwnW.nil, O42, O4, O5, N4_44, N5_44, qcc⟩
     exact trivial
    refine And.intro ?_ ?_
    ·have H := H.2.1
     refine qax (fun g45_ w108 L45 P45 e109 => ?_)
     have N4_45 := O4.ne L45
     have N5_45 := O5.ne L45
     have N36_45 := O36.qag L45
     have N42_45 := O42.qag L45
     have O36 := O36.ext e109
     have O42 := O42.ext e109
     have O45 := P45
     have L45 := Nat.le_trans hB.size L45
     have hB := qa5 hB e109
     have hS40 := hS40.then e109
     refine ⟨qa2 hS40, ?_⟩
     obtain ⟨hl114, H⟩ := H
     refine appO qeh O36 (R0_0.ext hB) hB.size hl114 (fun A110 c111 w112 P36 e113 => ?_)
     have N42_36 := qcy.app (N36_42).symm e113 O42
     have O42 := O42.app e113 (N36_42).symm
     have N36_45_ := Apart.app N36_45 e113 O45.lt
     have O45 := O45.app e113 N36_45
     have N36_45 := N36_45_
     have hS40 := hS40.app e113 (fun g h_ => (Or.inl (LB36 g h_)))
     have hB := eapp hB e113 O36
     refine ⟨qa2 hS40, ?_⟩
     obtain ⟨hl119, H⟩ := H
     refine appO qdZ O42 (R0_2.ext hB) hB.size hl119 (fun A115 c116 w117 P42 e118 => ?_)
     have N42_45_ := Apart.app N42_45 e118 O45.lt
     have O45 := O45.app e118 N42_45
     have N42_45 := N42_45_
     have hS40 := hS40.app e118 (fun g h_ => (Or.inl (LB42 g h_)))
     have hB := eapp hB e118 O42
     refine ⟨qa2 hS40, ?_⟩
     refine qbI O45 (o := 0) (cs' := #[(sv A110 (((([] : List D.Ins) ++ s0.Code)).length) c111), (sv none 0 0), (sv A115 (((([] : List Int) ++ s0.Memory)).length) c116), (iv s0.Waiting), (iv s0.Phase)]) rfl rfl (Nat.le_of_ble_eq_true rfl) rfl (fun w120 O45 e121 => ?_)
     have O4 := (((O4.ext e109).app e113 N36_4).app e118 N42_4).chg e121 N4_45
     have O5 := (((O5.ext e109).app e113 N36_5).app e118 N42_5).chg e121 N5_45
     have O36 := (P36.app e118 (N42_36).symm).chg e121 N36_45
     have O42 := P42.chg e121 N42_45
     have hB := echg hB e121 L45
     exact ⟨_, [], _, _, _, g45_, A110, c111, none, 0, (fun _ => False), A115, c116, rfl, H, hB, O45, L45, O36, OwnW.nil, O42, O4, O5, N4_45, N5_45, qcc⟩
    exact trivial
   refine And.intro ?_ ?_
   ·have H := H.2.2.1
    refine qax (fun g46_ w122 L46 P46 e123 => ?_)
    have N4_46 := O4.ne L46
    have N5_46 := O5.ne L46
    have N36_46 := O36.qag L46
    have O4 := O4.ext e123
    have O5 := O5.ext e123
    have O36 := O36.ext e123
    have O46 := P46
    have L46 := Nat.le_trans hB.size L46
    have hB := qa5 hB e123
    have hS40 := hS40.then e123
    refine ⟨qa2 hS40, ?_⟩
    refine And.intro ?_ ?_
    ·have H := H.1
     obtain ⟨hl128, H⟩ := H
     refine appO qeh O36 (R0_0.ext hB) hB.size hl128 (fun A124 c125 w126 P36 e127 => ?_)
     have O4 := O4.app e127 N36_4
     have O5 := O5.app e127 N36_5
     have N36_46_ := Apart.app N36_46 e127 O46.lt
     have O46 := O46.app e127 N36_46
     have N36_46 := N36_46_
     have hS40 := hS40.app e127 (fun g h_ => (Or.inl (LB36 g h_)))
     have hB := eapp hB e127 O36
     have O36 := P36
     refine ⟨qa2 hS40, ?_⟩
     refine qap el3 ([] : List Int) (fun _ => by kernel_rfl) rfl (fun A129 w130 P47 e131 => ?_)
     have N47_4 := P47.qa8 O4.lt
     have N47_5 := P47.qa8 O5.lt
     have N36_47 := aN O36 P47
     have N47_46 := P47.qa8 O46.lt
     have O46 := O46.ext e131
     have LB47 := (P47.mono hS40.size).low
     have O47 := P47.mono hB.size
     have hB := qa5 hB e131
     have hS40 := hS40.then e131
     refine ⟨qa2 hS40, ?_⟩
     obtain ⟨hl136, H⟩ := H
     refine appO qdZ O47 (R0_2.ext hB) hB.size hl136 (fun A132 c133 w134 P47 e135 => ?_)
     have N47_46_ := Apart.app N47_46 e135 O46.lt
     have O46 := O46.app e135 N47_46
     have N47_46 := N47_46_
     have hS40 := hS40.app e135 (fun g h_ => (Or.inl (LB47 g h_)))
     have hB := eapp hB e135 O47
     refine ⟨qa2 hS40, ?_⟩
     refine qbI O46 (o := 0) (cs' := #[(sv A124 (((([] : List D.Ins) ++ s0.Code)).length) c125), (sv none 0 0), (sv A132 (((([] : List Int) ++ s0.Memory)).length) c133), (iv s0.Waiting), (iv s0.Phase)]) rfl rfl (Nat.le_of_ble_eq_true rfl) rfl (fun w137 O46 e138 => ?_)
     have O4 := ((O4.ext e131).app e135 N47_4).chg e138 N4_46
     have O5 := ((O5.ext e131).app e135 N47_5).chg e138 N5_46
     have O36 := ((O36.ext e131).app e135 N36_47).chg e138 N36_46
     have O47 := P47.chg e138 N47_46
     have hB := echg hB e138 L46
     exact ⟨_, [], _, _, _, g46_, A124, c125, none, 0, (fun _ => False), A132, c133, rfl, H, hB, O46, L46, O36, OwnW.nil, O47, O4, O5, N4_46, N5_46, qcc⟩
    refine And.intro ?_ ?_
    ·have H := H.2.1
     refine qap el3 ([] : List Int) (fun _ => by kernel_rfl) rfl (fun A139 w140 P48 e141 => ?_)
     have N48_4 := P48.qa8 O4.lt
     have N48_5 := P48.qa8 O5.lt
     have N36_48 := aN O36 P48
     have N48_46 := P48.qa8 O46.lt
     have O36 := O36.ext e141
     have O46 := O46.ext e141
     have LB48 := (P48.mono hS40.size).low
     have O48 := P48.mono hB.size
     have hB := qa5 hB e141
     have hS40 := hS40.then e141
     refine ⟨qa2 hS40, ?_⟩
     obtain ⟨hl146, H⟩ := H
     refine appO qeh O36 (R0_0.ext hB) hB.size hl146 (fun A142 c143 w144 P36 e145 => ?_)
     have N36_46_ := Apart.app N36_46 e145 O46.lt
     have O46 := O46.app e145 N36_46
     have N48_36 := qcy.app (N36_48).symm e145 O48
     have O48 := O48.app e145 (N36_48).symm
     have N36_46 := N36_46_
     have hS40 := hS40.app e145 (fun g h_ => (Or.inl (LB36 g h_)))
     have hB := eapp hB e145 O36
     refine ⟨qa2 hS40, ?_⟩
     obtain ⟨hl151, H⟩ := H
     refine appO qdZ O48 (R0_2.ext hB) hB.size hl151 (fun A147 c148 w149 P48 e150 => ?_)
     have N48_46_ := Apart.app N48_46 e150 O46.lt
     have O46 := O46.app e150 N48_46
     have N48_46 := N48_46_
     have hS40 := hS40.app e150 (fun g h_ => (Or.inl (LB48 g h_)))
     have hB := eapp hB e150 O48
     refine ⟨qa2 hS40, ?_⟩
     refine qbI O46 (o := 0) (cs' := #[(sv A142 (((([] : List D.Ins) ++ s0.Code)).length) c143), (sv none 0 0), (sv A147 (((([] : List Int) ++ s0.Memory)).length) c148), (iv s0.Waiting), (iv s0.Phase)]) rfl rfl (Nat.le_of_ble_eq_true rfl) rfl (fun w152 O46 e153 => ?_)
     have O4 := (((O4.ext e141).app e145 N36_4).app e150 N48_4).chg e153 N4_46
     have O5 := (((O5.ext e141).app e145 N36_5).app e150 N48_5).chg e153 N5_46
     have O36 := (P36.app e150 (N48_36).symm).chg e153 N36_46
     have O48 := P48.chg e153 N48_46
     have hB := echg hB e153 L46
     exact ⟨_, [], _, _, _, g46_, A142, c143, none, 0, (fun _ => False), A147, c148, rfl, H, hB, O46, L46, O36, OwnW.nil, O48, O4, O5, N4_46, N5_46, qcc⟩
    exact trivial
   exact trivial
  refine And.intro ?_ ?_
  ·have H := H.2.1
   have O4 := O4.ext (Ext.drew _)
   have O5 := O5.ext (Ext.drew _)
   have hB := qa5 hB (Ext.drew _)
   have hS40 := (Chg.refl (fun _ => False) w23).then (Ext.drew _)
   refine qap el3 ([] : List Int) (fun _ => by kernel_rfl) rfl (fun A154 w155 P49 e156 => ?_)
   have N49_4 := P49.qa8 O4.lt
   have N49_5 := P49.qa8 O5.lt
   have O4 := O4.ext e156
   have O5 := O5.ext e156
   have LB49 := (P49.mono hS40.size).low
   have O49 := P49.mono hB.size
   have hB := qa5 hB e156
   have hS40 := hS40.then e156
   refine ⟨qa2 hS40, ?_⟩
   refine And.intro ?_ ?_
   ·have H := H.1
    refine qap el84 ([] : List D.Ins) (fun _ => by kernel_rfl) rfl (fun A157 w158 P50 e159 => ?_)
    have N50_4 := P50.qa8 O4.lt
    have N50_5 := P50.qa8 O5.lt
    have N49_50 := aN O49 P50
    have O4 := O4.ext e159
    have O5 := O5.ext e159
    have O49 := O49.ext e159
    have LB50 := (P50.mono hS40.size).low
    have O50 := P50.mono hB.size
    have hB := qa5 hB e159
    have hS40 := hS40.then e159
    refine ⟨qa2 hS40, ?_⟩
    refine And.intro ?_ ?_
    ·have H := H.1
     obtain ⟨hl164, H⟩ := H
     refine appO qeh O50 (R0_0.ext hB) hB.size hl164 (fun A160 c161 w162 P50 e163 => ?_)
     have O4 := O4.app e163 N50_4
     have O5 := O5.app e163 N50_5
     have N49_50_ := qcy.app N49_50 e163 O49
     have O49 := O49.app e163 N49_50
     have N49_50 := N49_50_
     have hS40 := hS40.app e163 (fun g h_ => (Or.inl (LB50 g h_)))
     have hB := eapp hB e163 O50
     have O50 := P50
     refine ⟨qa2 hS40, ?_⟩
     refine And.intro ?_ ?_
     ·have H := H.1
      obtain ⟨hl169, H⟩ := H
      refine appO qdZ O49 (R0_2.ext hB) hB.size hl169 (fun A165 c166 w167 P49 e168 => ?_)
      have O4 := O4.app e168 N49_4
      have O5 := O5.app e168 N49_5
      have O50 := O50.app e168 (N49_50).symm
      have hS40 := hS40.app e168 (fun g h_ => (Or.inl (LB49 g h_)))
      have hB := eapp hB e168 O49
      have O49 := P49
      refine ⟨qa2 hS40, ?_⟩
      refine qax (fun g51_ w170 L51 P51 e171 => ?_)
      have N4_51 := O4.ne L51
      have N5_51 := O5.ne L51
      have N49_51 := O49.qag L51
      have N50_51 := O50.qag L51
      have O51 := P51
      have L51 := Nat.le_trans hB.size L51
      have hB := qa5 hB e171
      have hS40 := hS40.then e171
      refine ⟨qa2 hS40, ?_⟩
      refine qbI O51 (o := 0) (cs' := #[(sv A160 (((([] : List D.Ins) ++ s0.Code)).length) c161), (sv none 0 0), (sv A165 (((([] : List Int) ++ s0.Memory)).length) c166), (iv s0.Waiting), (iv s0.Phase)]) rfl rfl (Nat.le_of_ble_eq_true rfl) rfl (fun w172 O51 e173 => ?_)
      have O4 := (O4.ext e171).chg e173 N4_51
      have O5 := (O5.ext e171).chg e173 N5_51
      have O49 := (O49.ext e171).chg e173 N49_51
      have O50 := (O50.ext e171).chg e173 N50_51
      have hB := echg hB e173 L51
      exact ⟨_, [], _, _, _, g51_, A160, c161, none, 0, (fun _ => False), A165, c166, rfl, H, hB, O51, L51, O50, OwnW.nil, O49, O4, O5, N4_51, N5_51, qcc⟩
     refine And.intro ?_ ?_
     ·have H := H.2.1
      refine qax (fun g52_ w174 L52 P52 e175 => ?_)
      have N4_52 := O4.ne L52
      have N5_52 := O5.ne L52
      have N49_52 := O49.qag L52
      have N50_52 := O50.qag L52
      have O49 := O49.ext e175
      have O52 := P52
      have L52 := Nat.le_trans hB.size L52
      have hB := qa5 hB e175
      have hS40 := hS40.then e175
      refine ⟨qa2 hS40, ?_⟩
      obtain ⟨hl180, H⟩ := H
      refine appO qdZ O49 (R0_2.ext hB) hB.size hl180 (fun A176 c177 w178 P49 e179 => ?_)
      have N49_52_ := Apart.app N49_52 e179 O52.lt
      have O52 := O52.app e179 N49_52
      have N49_52 := N49_52_
      have hS40 := hS40.app e179 (fun g h_ => (Or.inl (LB49 g h_)))
      have hB := eapp hB e179 O49
      refine ⟨qa2 hS40, ?_⟩
      refine qbI O52 (o := 0) (cs' := #[(sv A160 (((([] : List D.Ins) ++ s0.Code)).length) c161), (sv none 0 0), (sv A176 (((([] : List Int) ++ s0.Memory)).length) c177), (iv s0.Waiting), (iv s0.Phase)]) rfl rfl (Nat.le_of_ble_eq_true rfl) rfl (fun w181 O52 e182 => ?_)
      have O4 := ((O4.ext e175).app e179 N49_4).chg e182 N4_52
      have O5 := ((O5.ext e175).app e179 N49_5).chg e182 N5_52
      have O49 := P49.chg e182 N49_52
      have O50 := ((O50.ext e175).app e179 (N49_50).symm).chg e182 N50_52
      have hB := echg hB e182 L52
      exact ⟨_, [], _, _, _, g52_, A160, c161, none, 0, (fun _ => False), A176, c177, rfl, H, hB, O52, L52, O50, OwnW.nil, O49, O4, O5, N4_52, N5_52, qcc⟩
     exact trivial
    refine And.intro ?_ ?_
    ·have H := H.2.1
     refine qax (fun g53_ w183 L53 P53 e184 => ?_)
     have N4_53 := O4.ne L53
     have N5_53 := O5.ne L53
     have N49_53 := O49.qag L53
     have N50_53 := O50.qag L53
     have O49 := O49.ext e184
     have O50 := O50.ext e184
     have O53 := P53
     have L53 := Nat.le_trans hB.size L53
     have hB := qa5 hB e184
     have hS40 := hS40.then e184
     refine ⟨qa2 hS40, ?_⟩
     obtain ⟨hl189, H⟩ := H
     refine appO qeh O50 (R0_0.ext hB) hB.size hl189 (fun A185 c186 w187 P50 e188 => ?_)
     have N49_50_ := qcy.app N49_50 e188 O49
     have O49 := O49.app e188 N49_50
     have N50_53_ := Apart.app N50_53 e188 O53.lt
     have O53 := O53.app e188 N50_53
     have N49_50 := N49_50_
     have N50_53 := N50_53_
     have hS40 := hS40.app e188 (fun g h_ => (Or.inl (LB50 g h_)))
     have hB := eapp hB e188 O50
     refine ⟨qa2 hS40, ?_⟩
     obtain ⟨hl194, H⟩ := H
     refine appO qdZ O49 (R0_2.ext hB) hB.size hl194 (fun A190 c191 w192 P49 e193 => ?_)
     have N49_53_ := Apart.app N49_53 e193 O53.lt
     have O53 := O53.app e193 N49_53
     have N49_53 := N49_53_
     have hS40 := hS40.app e193 (fun g h_ => (Or.inl (LB49 g h_)))
     have hB := eapp hB e193 O49
     refine ⟨qa2 hS40, ?_⟩
     refine qbI O53 (o := 0) (cs' := #[(sv A185 (((([] : List D.Ins) ++ s0.Code)).length) c186), (sv none 0 0), (sv A190 (((([] : List Int) ++ s0.Memory)).length) c191), (iv s0.Waiting), (iv s0.Phase)]) rfl rfl (Nat.le_of_ble_eq_true rfl) rfl (fun w195 O53 e196 => ?_)
     have O4 := (((O4.ext e184).app e188 N50_4).app e193 N49_4).chg e196 N4_53
     have O5 := (((O5.ext e184).app e188 N50_5).app e193 N49_5).chg e196 N5_53
     have O49 := P49.chg e196 N49_53
     have O50 := (P50.app e193 (N49_50).symm).chg e196 N50_53
     have hB := echg hB e196 L53
     exact ⟨_, [], _, _, _, g53_, A185, c186, none, 0, (fun _ => False), A190, c191, rfl, H, hB, O53, L53, O50, OwnW.nil, O49, O4, O5, N4_53, N5_53, qcc⟩
    exact trivial
   refine And.intro ?_ ?_
   ·have H := H.2.1
    refine qax (fun g54_ w197 L54 P54 e198 => ?_)
    have N4_54 := O4.ne L54
    have N5_54 := O5.ne L54
    have N49_54 := O49.qag L54
    have O4 := O4.ext e198
    have O5 := O5.ext e198
    have O49 := O49.ext e198
    have O54 := P54
    have L54 := Nat.le_trans hB.size L54
    have hB := qa5 hB e198
    have hS40 := hS40.then e198
    refine ⟨qa2 hS40, ?_⟩
    refine qap el84 ([] : List D.Ins) (fun _ => by kernel_rfl) rfl (fun A199 w200 P55 e201 => ?_)
    have N55_4 := P55.qa8 O4.lt
    have N55_5 := P55.qa8 O5.lt
    have N49_55 := aN O49 P55
    have N55_54 := P55.qa8 O54.lt
    have O49 := O49.ext e201
    have O54 := O54.ext e201
    have LB55 := (P55.mono hS40.size).low
    have O55 := P55.mono hB.size
    have hB := qa5 hB e201
    have hS40 := hS40.then e201
    refine ⟨qa2 hS40, ?_⟩
    obtain ⟨hl206, H⟩ := H
    refine appO qeh O55 (R0_0.ext hB) hB.size hl206 (fun A202 c203 w204 P55 e205 => ?_)
    have N49_55_ := qcy.app N49_55 e205 O49
    have O49 := O49.app e205 N49_55
    have N55_54_ := Apart.app N55_54 e205 O54.lt
    have O54 := O54.app e205 N55_54
    have N49_55 := N49_55_
    have N55_54 := N55_54_
    have hS40 := hS40.app e205 (fun g h_ => (Or.inl (LB55 g h_)))
    have hB := eapp hB e205 O55
    refine ⟨qa2 hS40, ?_⟩
    obtain ⟨hl211, H⟩ := H
    refine appO qdZ O49 (R0_2.ext hB) hB.size hl211 (fun A207 c208 w209 P49 e210 => ?_)
    have N49_54_ := Apart.app N49_54 e210 O54.lt
    have O54 := O54.app e210 N49_54
    have N49_54 := N49_54_
    have hS40 := hS40.app e210 (fun g h_ => (Or.inl (LB49 g h_)))
    have hB := eapp hB e210 O49
    refine ⟨qa2 hS40, ?_⟩
    refine qbI O54 (o := 0) (cs' := #[(sv A202 (((([] : List D.Ins) ++ s0.Code)).length) c203), (sv none 0 0), (sv A207 (((([] : List Int) ++ s0.Memory)).length) c208), (iv s0.Waiting), (iv s0.Phase)]) rfl rfl (Nat.le_of_ble_eq_true rfl) rfl (fun w212 O54 e213 => ?_)
    have O4 := (((O4.ext e201).app e205 N55_4).app e210 N49_4).chg e213 N4_54
    have O5 := (((O5.ext e201).app e205 N55_5).app e210 N49_5).chg e213 N5_54
    have O49 := P49.chg e213 N49_54
    have O55 := (P55.app e210 (N49_55).symm).chg e213 N55_54
    have hB := echg hB e213 L54
    exact ⟨_, [], _, _, _, g54_, A202, c203, none, 0, (fun _ => False), A207, c208, rfl, H, hB, O54, L54, O55, OwnW.nil, O49, O4, O5, N4_54, N5_54, qcc⟩
   exact trivial
  refine And.intro ?_ ?_
  ·have H := H.2.2.1
   have O4 := O4.ext (Ext.drew _)
   have O5 := O5.ext (Ext.drew _)
   have hB := qa5 hB (Ext.drew _)
   refine qax (fun g56_ w214 L56 P56 e215 => ?_)
   have N4_56 := O4.ne L56
   have N5_56 := O5.ne L56
   have O4 := O4.ext e215
   have O5 := O5.ext e215
   have O56 := P56
   have L56 := Nat.le_trans hB.size L56
   have hB := qa5 hB e215
   have hS40 := ((Chg.refl (fun _ => False) w23).then (Ext.drew _)).then e215
   refine ⟨qa2 hS40, ?_⟩
   refine And.intro ?_ ?_
   ·have H := H.1
    refine qap el84 ([] : List D.Ins) (fun _ => by kernel_rfl) rfl (fun A216 w217 P57 e218 => ?_)
    have N57_4 := P57.qa8 O4.lt
    have N57_5 := P57.qa8 O5.lt
    have N57_56 := P57.qa8 O56.lt
    have O4 := O4.ext e218
    have O5 := O5.ext e218
    have O56 := O56.ext e218
    have LB57 := (P57.mono hS40.size).low
    have O57 := P57.mono hB.size
    have hB := qa5 hB e218
    have hS40 := hS40.then e218
    refine ⟨qa2 hS40, ?_⟩
    refine And.intro ?_ ?_
    ·have H := H.1
     obtain ⟨hl223, H⟩ := H
     refine appO qeh O57 (R0_0.ext hB) hB.size hl223 (fun A219 c220 w221 P57 e222 => ?_)
     have O4 := O4.app e222 N57_4
     have O5 := O5.app e222 N57_5
     have N57_56_ := Apart.app N57_56 e222 O56.lt
     have O56 := O56.app e222 N57_56
     have N57_56 := N57_56_
     have hS40 := hS40.app e222 (fun g h_ => (Or.inl (LB57 g h_)))
     have hB := eapp hB e222 O57
     have O57 := P57
     refine ⟨qa2 hS40, ?_⟩
     refine qap el3 ([] : List Int) (fun _ => by kernel_rfl) rfl (fun A224 w225 P58 e226 => ?_)
     have N58_4 := P58.qa8 O4.lt
     have N58_5 := P58.qa8 O5.lt
     have N58_56 := P58.qa8 O56.lt
     have N57_58 := aN O57 P58
     have O56 := O56.ext e226
     have LB58 := (P58.mono hS40.size).low
     have O58 := P58.mono hB.size
     have hB := qa5 hB e226
     have hS40 := hS40.then e226
     refine ⟨qa2 hS40, ?_⟩
     obtain ⟨hl231, H⟩ := H
     refine appO qdZ O58 (R0_2.ext hB) hB.size hl231 (fun A227 c228 w229 P58 e230 => ?_)
     have N58_56_ := Apart.app N58_56 e230 O56.lt
     have O56 := O56.app e230 N58_56
     have N58_56 := N58_56_
     have hS40 := hS40.app e230 (fun g h_ => (Or.inl (LB58 g h_)))
     have hB := eapp hB e230 O58
     refine ⟨qa2 hS40, ?_⟩
     refine qbI O56 (o := 0) (cs' := #[(sv A219 (((([] : List D.Ins) ++ s0.Code)).length) c220), (sv none 0 0), (sv A227 (((([] : List Int) ++ s0.Memory)).length) c228), (iv s0.Waiting), (iv s0.Phase)]) rfl rfl (Nat.le_of_ble_eq_true rfl) rfl (fun w232 O56 e233 => ?_)
     have O4 := ((O4.ext e226).app e230 N58_4).chg e233 N4_56
     have O5 := ((O5.ext e226).app e230 N58_5).chg e233 N5_56
     have O57 := ((O57.ext e226).app e230 N57_58).chg e233 N57_56
     have O58 := P58.chg e233 N58_56
     have hB := echg hB e233 L56
     exact ⟨_, [], _, _, _, g56_, A219, c220, none, 0, (fun _ => False), A227, c228, rfl, H, hB, O56, L56, O57, OwnW.nil, O58, O4, O5, N4_56, N5_56, qcc⟩
    refine And.intro ?_ ?_
    ·have H := H.2.1
     refine qap el3 ([] : List Int) (fun _ => by kernel_rfl) rfl (fun A234 w235 P59 e236 => ?_)
     have N59_4 := P59.qa8 O4.lt
     have N59_5 := P59.qa8 O5.lt
     have N59_56 := P59.qa8 O56.lt
     have N57_59 := aN O57 P59
     have O56 := O56.ext e236
     have O57 := O57.ext e236
     have LB59 := (P59.mono hS40.size).low
     have O59 := P59.mono hB.size
     have hB := qa5 hB e236
     have hS40 := hS40.then e236
     refine ⟨qa2 hS40, ?_⟩
     obtain ⟨hl241, H⟩ := H
     refine appO qeh O57 (R0_0.ext hB) hB.size hl241 (fun A237 c238 w239 P57 e240 => ?_)
     have N57_56_ := Apart.app N57_56 e240 O56.lt
     have O56 := O56.app e240 N57_56
     have N59_57 := qcy.app (N57_59).symm e240 O59
     have O59 := O59.app e240 (N57_59).symm
     have N57_56 := N57_56_
     have hS40 := hS40.app e240 (fun g h_ => (Or.inl (LB57 g h_)))
     have hB := eapp hB e240 O57
     refine ⟨qa2 hS40, ?_⟩
     obtain ⟨hl246, H⟩ := H
     refine appO qdZ O59 (R0_2.ext hB) hB.size hl246 (fun A242 c243 w244 P59 e245 => ?_)
     have N59_56_ := Apart.app N59_56 e245 O56.lt
     have O56 := O56.app e245 N59_56
     have N59_56 := N59_56_
     have hS40 := hS40.app e245 (fun g h_ => (Or.inl (LB59 g h_)))
     have hB := eapp hB e245 O59
     refine ⟨qa2 hS40, ?_⟩
     refine qbI O56 (o := 0) (cs' := #[(sv A237 (((([] : List D.Ins) ++ s0.Code)).length) c238), (sv none 0 0), (sv A242 (((([] : List Int) ++ s0.Memory)).length) c243), (iv s0.Waiting), (iv s0.Phase)]) rfl rfl (Nat.le_of_ble_eq_true rfl) rfl (fun w247 O56 e248 => ?_)
     have O4 := (((O4.ext e236).app e240 N57_4).app e245 N59_4).chg e248 N4_56
     have O5 := (((O5.ext e236).app e240 N57_5).app e245 N59_5).chg e248 N5_56
     have O57 := (P57.app e245 (N59_57).symm).chg e248 N57_56
     have O59 := P59.chg e248 N59_56
     have hB := echg hB e248 L56
     exact ⟨_, [], _, _, _, g56_, A237, c238, none, 0, (fun _ => False), A242, c243, rfl, H, hB, O56, L56, O57, OwnW.nil, O59, O4, O5, N4_56, N5_56, qcc⟩
    exact trivial
   refine And.intro ?_ ?_
   ·have H := H.2.1
    refine qap el3 ([] : List Int) (fun _ => by kernel_rfl) rfl (fun A249 w250 P60 e251 => ?_)
    have N60_4 := P60.qa8 O4.lt
    have N60_5 := P60.qa8 O5.lt
    have N60_56 := P60.qa8 O56.lt
    have O4 := O4.ext e251
    have O5 := O5.ext e251
    have O56 := O56.ext e251
    have LB60 := (P60.mono hS40.size).low
    have O60 := P60.mono hB.size
    have hB := qa5 hB e251
    have hS40 := hS40.then e251
    refine ⟨qa2 hS40, ?_⟩
    refine qap el84 ([] : List D.Ins) (fun _ => by kernel_rfl) rfl (fun A252 w253 P61 e254 => ?_)
    have N61_4 := P61.qa8 O4.lt
    have N61_5 := P61.qa8 O5.lt
    have N61_56 := P61.qa8 O56.lt
    have N60_61 := aN O60 P61
    have O56 := O56.ext e254
    have O60 := O60.ext e254
    have LB61 := (P61.mono hS40.size).low
    have O61 := P61.mono hB.size
    have hB := qa5 hB e254
    have hS40 := hS40.then e254
    refine ⟨qa2 hS40, ?_⟩
    obtain ⟨hl259, H⟩ := H
    refine appO qeh O61 (R0_0.ext hB) hB.size hl259 (fun A255 c256 w257 P61 e258 => ?_)
    have N61_56_ := Apart.app N61_56 e258 O56.lt
    have O56 := O56.app e258 N61_56
    have N60_61_ := qcy.app N60_61 e258 O60
    have O60 := O60.app e258 N60_61
    have N61_56 := N61_56_
    have N60_61 := N60_61_
    have hS40 := hS40.app e258 (fun g h_ => (Or.inl (LB61 g h_)))
    have hB := eapp hB e258 O61
    refine ⟨qa2 hS40, ?_⟩
    obtain ⟨hl264, H⟩ := H
    refine appO qdZ O60 (R0_2.ext hB) hB.size hl264 (fun A260 c261 w262 P60 e263 => ?_)
    have N60_56_ := Apart.app N60_56 e263 O56.lt
    have O56 := O56.app e263 N60_56
    have N60_56 := N60_56_
    have hS40 := hS40.app e263 (fun g h_ => (Or.inl (LB60 g h_)))
    have hB := eapp hB e263 O60
    refine ⟨qa2 hS40, ?_⟩
    refine qbI O56 (o := 0) (cs' := #[(sv A255 (((([] : List D.Ins) ++ s0.Code)).length) c256), (sv none 0 0), (sv A260 (((([] : List Int) ++ s0.Memory)).length) c261), (iv s0.Waiting), (iv s0.Phase)]) rfl rfl (Nat.le_of_ble_eq_true rfl) rfl (fun w265 O56 e266 => ?_)
    have O4 := (((O4.ext e254).app e258 N61_4).app e263 N60_4).chg e266 N4_56
    have O5 := (((O5.ext e254).app e258 N61_5).app e263 N60_5).chg e266 N5_56
    have O60 := P60.chg e266 N60_56
    have O61 := (P61.app e263 (N60_61).symm).chg e266 N61_56
    have hB := echg hB e266 L56
    exact ⟨_, [], _, _, _, g56_, A255, c256, none, 0, (fun _ => False), A260, c261, rfl, H, hB, O56, L56, O61, OwnW.nil, O60, O4, O5, N4_56, N5_56, qcc⟩
   exact trivial
  exact trivial
 rintro _ w38 ⟨xs25, xs29, xs32, i35, i36, g32_, A26, c27, A30, c31, F28, A33, c34, rfl, H, hB, O32, L32, O33, O34, O35, O4, O5, N4_32, N5_32, N34_35⟩
 have H := hKK544 _ H
 try dsimp only at H ⊢
 obtain ⟨J450, ⟨m541, hJ540⟩, hS451⟩ := H
 refine ⟨fun m_ z_ w_ => ∃ (i442 : Int) (xs444 : List D.Warp) (i447 i448 : Int) (A445 : OA) (c446 : Nat) (F443 : Nat → Prop), z_ = (i442, ()) ∧ J450 m_ (i442, xs444, i447, i448, ()) ∧ Ext w w_ ∧ Blk w_ g32_ 33 #[(sv A26 xs25.length c27), (sv A445 xs444.length c446), (sv A33 xs32.length c34), (iv i447), (iv i448)] ∧ OwnW 52 el91 el3 w_ w.heap.size F443 A445 c446 xs444 ∧ Blk w_ g4_ 33 (bC A0_0 c0_0 A0_1 c0_1 A0_2 c0_2 s0) ∧ Blk w_ g5_ 33 zC ∧ Own el84 w_ w.heap.size A26 c27 xs25 ∧ Own el3 w_ w.heap.size A33 c34 xs32 ∧ Dis (InW A445 F443) (InB A33), ⟨m541, 0, xs29, i35, i36, A30, c31, F28, rfl, hJ540, hB, O32, O34, O4, O5, O33, O35, N34_35⟩, ?_⟩
 rintro m449 _ w453 ⟨i442, xs444, i447, i448, A445, c446, F443, rfl, hJ542, hB, O32, O82, O4, O5, O33, O35, N82_35⟩
 have H := hS451 m449 _ hJ542
 clear hS451 hJ542
 try dsimp only at H ⊢
 refine ⟨_, _, _, (O4.a 1), ?_⟩
 refine brc H (fun h H => ?_) fun h H => ?_
 ·refine ⟨(InB A445), _, _, _, ⟨(qh3 (fun h_ => (O82.qda O32 (by decide) (by decide) (by decide)) (Or.inl h_)) (by first | rfl | (simp only [qe6]))), (O32.a 1)⟩, _, _, _, ⟨(qh3 (fun h_ => (O82.qda O4 (by decide) (by decide) (by decide)) (Or.inl h_)) (by first | rfl | (simp only [qe6]))), (O4.a 1)⟩, ?_⟩
  obtain ⟨⟨h0_496, h1_497⟩, H⟩ := H
  obtain ⟨a494, ha495, A501, c502, A503, c504, f498, f499, f500, R505, hle507, R506, hle508⟩ := RowW.at R0_1 h0_496 h1_497
  refine ⟨h0_496, h1_497, a494, ha495, _, ⟨(qh3 (fun h_ => absurd (R0_1.old (ql3 h0_496 h1_497) _ ⟨_, ha495, rfl⟩) (Nat.not_lt.2 (O82.lowW _ (Or.inl h_)))) (by first | rfl | (simp only [qe6]))), (Ext.cell hB f498)⟩, _, _, _, ⟨(qh3 (fun h_ => absurd (R0_1.old (ql3 h0_496 h1_497) _ ⟨_, ha495, rfl⟩) (Nat.not_lt.2 (O82.lowW _ (Or.inl h_)))) (by first | rfl | (simp only [qe6]))), (Ext.cell hB f499)⟩, _, _, _, ⟨(qh3 (fun h_ => absurd (R0_1.old (ql3 h0_496 h1_497) _ ⟨_, ha495, rfl⟩) (Nat.not_lt.2 (O82.lowW _ (Or.inl h_)))) (by first | rfl | (simp only [qe6]))), (Ext.cell hB f500)⟩, ?_⟩
  have O4 := O4.ext (Ext.drew _)
  have O5 := O5.ext (Ext.drew _)
  have O32 := O32.ext (Ext.drew _)
  have O33 := O33.ext (Ext.drew _)
  have O35 := O35.ext (Ext.drew _)
  have O82 := O82.ext (Ext.drew _)
  have hB := qa5 hB (Ext.drew _)
  have hS454 := (Chg.refl (InB A445) w453).then (Ext.drew _)
  obtain ⟨hp511, H⟩ := H
  obtain ⟨r509, hr510, H⟩ := qad H
  refine (cllA (qbZ.con hp511 hr510 (R505.ext hB) hle507 (R506.ext hB) hle508)).mono ?_
  rintro _ w512 ⟨A514, c515, A516, c517, rfl, P90, P91, e513⟩
  have N35_90 := aN O35 P90
  have N82_90 := O82.qf0 P90 (Nat.le_refl _)
  have N35_91 := aN O35 P91
  have N82_91 := O82.qf0 P91 (Nat.le_refl _)
  have O35 := O35.ext e513
  have O82 := O82.ext e513
  have LB90 := (P90.mono hS454.size).low
  have LB91 := (P91.mono hS454.size).low
  have O90 := P90.mono hB.size
  have O91 := P91.mono hB.size
  have hB := qa5 hB e513
  have hS454 := hS454.then e513
  refine ⟨r509.Number, trivial, A514, r509.Frames.length, c515, trivial, A516, r509.Regs.length, c517, trivial, rfl, qa2 hS454, ?_⟩
  refine qap (elH 52) ([⟨r509, A514, c515, A516, c517⟩] : List HW) (fun _ => by kernel_rfl) rfl (fun A518 w519 P92 e520 => ?_)
  have Q92 : OwnW 52 el91 el3 _ _ _ _ _ _ := OwnW.one (P92.mono hB.size) (O90.ext e520) (O91.ext e520)
  have N92_35 : Dis (InW A518 (fun g => InB A514 g ∨ InB A516 g)) (InB A33) := fun g h_ hx_ => h_.elim (fun h_ => (Own.qep O35 P92 (Nat.le_refl _)).inb g hx_ h_) (fun h_ => h_.elim (fun h_ => ((N35_90).symm).inb g h_ hx_) (fun h_ => ((N35_91).symm).inb g h_ hx_))
  have N92_82 : Dis (InW A518 (fun g => InB A514 g ∨ InB A516 g)) (InW A445 F443) := fun g h_ hx_ => h_.elim (fun h_ => O82.qf0 P92 (Nat.le_refl _) g hx_ h_) (fun h_ => h_.elim (fun h_ => N82_90 g hx_ h_) (fun h_ => N82_91 g hx_ h_))
  have O4 := (O4.ext e513).ext e520
  have O5 := (O5.ext e513).ext e520
  have O32 := (O32.ext e513).ext e520
  have O33 := (O33.ext e513).ext e520
  have O35 := O35.ext e520
  have O82 := O82.ext e520
  have LB92 : ∀ g, InW A518 (fun g => InB A514 g ∨ InB A516 g) g → _ := fun g h_ => h_.elim ((P92.mono hS454.size).low g) (fun h_ => h_.elim (fun h_ => LB90 g h_) (fun h_ => LB91 g h_))
  have O92 := Q92
  have hB := qa5 hB e520
  have hS454 := hS454.then e520
  refine ⟨qa2 hS454, ?_⟩
  obtain ⟨hl530, H⟩ := H
  refine qlO qmk qmk.under O82 O92 (N92_82).symm (by decide) (by decide) hB.size rfl (by first | rfl | omega | (simp; done) | (simp; omega)) hl530 (fun A526 c527 w528 P82 e529 => ?_)
  have O4 := O4.app e529 (fun a_ ha_ hb_ => (O82.qda O4 (by decide) (by decide) (by decide)) (Or.inl ⟨a_, ha_, hb_⟩))
  have O5 := O5.app e529 (fun a_ ha_ hb_ => (O82.qda O5 (by decide) (by decide) (by decide)) (Or.inl ⟨a_, ha_, hb_⟩))
  have O32 := O32.app e529 (fun a_ ha_ hb_ => (O82.qda O32 (by decide) (by decide) (by decide)) (Or.inl ⟨a_, ha_, hb_⟩))
  have O33 := O33.app e529 (fun a_ b_ ha_ hb_ hab_ => (O82.qhk O33 (by decide) (by decide) (by decide)) _ (Or.inl ⟨b_, hb_, rfl⟩) ⟨a_, ha_, hab_⟩)
  have N82_35_ := qlM N82_35 N92_35 e529 O35
  have O35 := O35.app e529 (fun a_ b_ ha_ hb_ hab_ => N82_35 _ (Or.inl ⟨b_, hb_, rfl⟩) ⟨a_, ha_, hab_⟩)
  have N82_35 := N82_35_
  have hS454 := hS454.app e529 (fun g h_ => (Or.inr h_))
  have hB := qo3 hB e529 O82
  have O82 := P82
  refine ⟨qa2 hS454, ?_⟩
  refine stB O32 1 #[(sv A26 xs25.length c27), (sv A526 (((xs444 ++ ([r509] : List D.Warp))).length) c527), (sv A33 xs32.length c34), (iv i447), (iv i448)] (fun w531 P32 e532 => ?_)
  have O4 := O4.chg e532 N4_32
  have O5 := O5.chg e532 N5_32
  have O33 := O33.chg e532 (O33.qa6 O32 (by decide))
  have O35 := O35.chg e532 (O35.qa6 O32 (by decide))
  have O82 := O82.chg e532 (O82.qda O32 (by decide) (by decide) (by decide))
  have hB := echg hB e532 L32
  have O32 := P32
  obtain ⟨m533, hm534, hJ535⟩ := H
  exact ⟨m533, hm534, _, _, i447, i448, A526, c527, (fun g => F443 g ∨ (fun g => InB A514 g ∨ InB A516 g) g), rfl, hJ535, hB, O32, O82, O4, O5, O33, O35, N82_35⟩
 refine ⟨_, _, _, (O32.a 0), _, _, _, (O32.a 1), _, _, _, (O32.a 2), _, (O32.a 3), _, (O32.a 4), ?_⟩
 refine stB O5 0 #[(sv A26 xs25.length c27), (sv A445 xs444.length c446), (sv A33 xs32.length c34), (iv i447), (iv i448)] (fun w536 P5 e537 => ?_)
 have O33 := O33.chg e537 (O33.qa6 O5 (by decide))
 have O35 := O35.chg e537 (O35.qa6 O5 (by decide))
 have O82 := O82.chg e537 (O82.qda O5 (by decide) (by decide) (by decide))
 have hB := echg hB e537 L5
 have O5 := P5
 refine ⟨_, _, _, (O5.a 0), _, _, _, (O5.a 1), _, _, _, (O5.a 2), _, (O5.a 3), _, (O5.a 4), ?_⟩
 cases hr.trans H.symm
 exact ⟨A26, c27, A445, c446, F443, A33, c34, rfl, O33, O82, O35, N82_35, hB⟩
def qai.vc (A0 : OA) (n0 c0 : Nat) (w : World) (K : VK) : Prop :=
  qa1 (Option.isNone A0) (K (sv none 0 0) w) (Run Tryz.prog (Instr.buildSlice 50 0 #[]) w fun v21 w22 => ∃ (A23 : OA) (n24 c25 : Nat), v21 = .slice A23 n24 c25 ∧ Run Tryz.prog (Builtin.append_ #[50, 50] 50 #[(sv A23 n24 c25), (sv A0 n0 c0)]) w22 fun v26 w27 => ∃ (A28 : OA) (n29 c30 : Nat), v26 = .slice A28 n29 c30 ∧ K (sv A28 n29 c30) w27)

def qai.ann : Ann := (.seq .l (.seq (.seq .l (.two (.seq .l .l) .l)) (.seq .l .l)))

theorem qai.con {xs0 r : List D.Frame} {A0 : OA} {c0 : Nat} {w : World} (hp : M.qb2 xs0) (hr : r = M.qai xs0) (R0 : Row el91 w A0 xs0) (hc0 : xs0.length ≤ c0) :
    Cl 170 #[(sv A0 xs0.length c0)] w (fun v_ w_ => ∃ (A0_ : OA) (c0_ : Nat), v_ = (sv A0_ r.length c0_) ∧ Own el91 w_ w.heap.size A0_ c0_ r ∧ Ext w w_) := by
 have H := wp.qai.math xs0 hp
 have hB := Ext.refl w
 refine begK mixed Tryz.f170 ann (vc A0 xs0.length c0) ?_
 unfold vc
 unfold wp.qai at H
 obtain ⟨b21, hb22⟩ : ∃ b_, b_ = Option.isNone A0 := ⟨_, rfl⟩
 have H := H b21 (fun h_ => Row.isNone (R0.ext hB) (hb22.symm.trans h_))
 rw [← hb22]
 refine brc H (fun h H => ?_) fun h H => ?_
 ·cases hr.trans H.symm
  exact ⟨none, 0, rfl, Own.nil, hB⟩
 refine qap el91 ([] : List D.Frame) (fun _ => by kernel_rfl) rfl (fun A23 w24 P2 e25 => ?_)
 have O2 := P2.mono hB.size
 have hB := qa5 hB e25
 obtain ⟨hl30, H⟩ := H
 refine appO qja O2 (R0.ext hB) hB.size hl30 (fun A26 c27 w28 P2 e29 => ?_)
 have hB := eapp hB e29 O2
 have O2 := P2
 cases hr.trans H.symm
 exact ⟨A26, c27, rfl, O2, hB⟩
def qcJ.vc (x0_0 : Int) (A0_1 : OA) (n0_1 c0_1 : Nat) (A0_2 : OA) (n0_2 c0_2 : Nat) (w : World) (K : VK) : Prop :=
  newK w (.cells #[(iv x0_0), (sv A0_1 n0_1 c0_1), (sv A0_2 n0_2 c0_2)] 52) fun g21 w22 => newK w22 (.cells #[(iv 0), (sv none 0 0), (sv none 0 0)] 52) fun g23 w24 => ((∃ (A25 : OA) (n26 c27 : Nat), w24.drew.cell? (((bx g21).add 1).add 0) = some (sv A25 n26 c27) ∧ ((Cl 170 #[(sv A25 n26 c27)] w24.drew fun v28 w29 => (∃ (A30 : OA) (n31 c32 : Nat), v28 = (sv A30 n31 c32) ∧ ((ldS w29 (((bx g21).add 2).add 0) fun A33 n34 c35 => ((Cl 128 #[(sv A33 n34 c35)] w29 fun v36 w37 => (∃ (A38 : OA) (n39 c40 : Nat), v36 = (sv A38 n39 c40) ∧ ((qa7 ((bx g21).add 1) [(sv A30 n31 c32)] 0 w37 fun w41 => ((qa7 ((bx g21).add 2) [(sv A38 n39 c40)] 0 w41 fun w42 => ldI w42 ((bx g21).add 0) fun n43 => ldS w42 ((bx g21).add 1) fun A44 n45 c46 => ldS w42 ((bx g21).add 2) fun A47 n48 c49 => qa7 (bx g23) [(iv n43), (sv A44 n45 c46), (sv A47 n48 c49)] 0 w42 fun w50 => ldI w50 ((bx g23).add 0) fun n51 => ldS w50 ((bx g23).add 1) fun A52 n53 c54 => ldS w50 ((bx g23).add 2) fun A55 n56 c57 => K (.agg #[(iv n51), (sv A52 n53 c54), (sv A55 n56 c57)]) w50) ∧ True)) ∧ True))) ∧ True)) ∧ True))) ∧ (∃ (A58 : OA) (n59 c60 : Nat), w24.drew.cell? (((bx g21).add 2).add 0) = some (sv A58 n59 c60) ∧ ((Cl 170 #[(sv A25 n26 c27)] w24.drew fun v61 w62 => (∃ (A63 : OA) (n64 c65 : Nat), v61 = (sv A63 n64 c65) ∧ ((Cl 128 #[(sv A58 n59 c60)] w62 fun v66 w67 => (∃ (A68 : OA) (n69 c70 : Nat), v66 = (sv A68 n69 c70) ∧ ((qa7 ((bx g21).add 1) [(sv A63 n64 c65)] 0 w67 fun w71 => ((qa7 ((bx g21).add 2) [(sv A68 n69 c70)] 0 w71 fun w72 => ldI w72 ((bx g21).add 0) fun n73 => ldS w72 ((bx g21).add 1) fun A74 n75 c76 => ldS w72 ((bx g21).add 2) fun A77 n78 c79 => qa7 (bx g23) [(iv n73), (sv A74 n75 c76), (sv A77 n78 c79)] 0 w72 fun w80 => ldI w80 ((bx g23).add 0) fun n81 => ldS w80 ((bx g23).add 1) fun A82 n83 c84 => ldS w80 ((bx g23).add 2) fun A85 n86 c87 => K (.agg #[(iv n81), (sv A82 n83 c84), (sv A85 n86 c87)]) w80) ∧ True)) ∧ True))) ∧ True))) ∧ True)) ∧ True)) ∧ (∃ (A88 : OA) (n89 c90 : Nat), w24.drew.cell? (((bx g21).add 2).add 0) = some (sv A88 n89 c90) ∧ ((∃ (A91 : OA) (n92 c93 : Nat), w24.drew.cell? (((bx g21).add 1).add 0) = some (sv A91 n92 c93) ∧ ((Cl 170 #[(sv A91 n92 c93)] w24.drew fun v94 w95 => (∃ (A96 : OA) (n97 c98 : Nat), v94 = (sv A96 n97 c98) ∧ ((Cl 128 #[(sv A88 n89 c90)] w95 fun v99 w100 => (∃ (A101 : OA) (n102 c103 : Nat), v99 = (sv A101 n102 c103) ∧ ((qa7 ((bx g21).add 1) [(sv A96 n97 c98)] 0 w100 fun w104 => ((qa7 ((bx g21).add 2) [(sv A101 n102 c103)] 0 w104 fun w105 => ldI w105 ((bx g21).add 0) fun n106 => ldS w105 ((bx g21).add 1) fun A107 n108 c109 => ldS w105 ((bx g21).add 2) fun A110 n111 c112 => qa7 (bx g23) [(iv n106), (sv A107 n108 c109), (sv A110 n111 c112)] 0 w105 fun w113 => ldI w113 ((bx g23).add 0) fun n114 => ldS w113 ((bx g23).add 1) fun A115 n116 c117 => ldS w113 ((bx g23).add 2) fun A118 n119 c120 => K (.agg #[(iv n114), (sv A115 n116 c117), (sv A118 n119 c120)]) w113) ∧ True)) ∧ True))) ∧ True))) ∧ True)) ∧ True)) ∧ True)

def qcJ.ann : Ann := (.seq .l (.seq .each (.seq .l .l)))

theorem qcJ.con {s0 r : D.Warp} {A0_1 A0_2 : OA} {c0_1 c0_2 : Nat} {w : World} (hp : M.qfT s0) (hr : r = M.qcJ s0) (R0_1 : Row el91 w A0_1 s0.Frames) (hc0_1 : s0.Frames.length ≤ c0_1) (R0_2 : Row el3 w A0_2 s0.Regs) (hc0_2 : s0.Regs.length ≤ c0_2) :
    Cl 129 #[(.agg (wC A0_1 c0_1 A0_2 c0_2 s0))] w (fun v_ w_ => ∃ (A0_ : OA) (c0_ : Nat) (A1_ : OA) (c1_ : Nat), v_ = (.agg (wC A0_ c0_ A1_ c1_ r)) ∧ Own el91 w_ w.heap.size A0_ c0_ r.Frames ∧ Own el3 w_ w.heap.size A1_ c1_ r.Regs ∧ Ext w w_) := by
 have H := wp.qcJ.math s0 hp
 have hB := Ext.refl w
 refine begK mixed Tryz.f129 ann (vc s0.Number A0_1 s0.Frames.length c0_1 A0_2 s0.Regs.length c0_2) ?_
 unfold vc
 unfold wp.qcJ at H
 refine qax (fun g3_ w21 L3 P3 e22 => ?_)
 have O3 := P3
 have L3 := Nat.le_trans hB.size L3
 have hB := qa5 hB e22
 refine qax (fun g4_ w23 L4 P4 e24 => ?_)
 have N3_4 := O3.ne L4
 have L4 := Nat.le_trans hB.size L4
 have O3 := (O3.ext e24).ext (Ext.drew _)
 have O4 := P4.ext (Ext.drew _)
 have hB := qa5 (qa5 hB e24) (Ext.drew _)
 refine And.intro ?_ ?_
 ·have H := H.1
  refine ⟨_, _, _, (O3.a 1), ?_⟩
  refine And.intro ?_ ?_
  ·have H := H.1
   obtain ⟨hp27, H⟩ := H
   obtain ⟨r25, hr26, H⟩ := qad H
   refine (qai.con hp27 hr26 (R0_1.ext hB) hc0_1).mono ?_
   rintro _ w28 ⟨A30, c31, rfl, P5, e29⟩
   have N5_3 := P5.qa8 O3.lt
   have N5_4 := P5.qa8 O4.lt
   have O3 := O3.ext e29
   have O4 := O4.ext e29
   have O5 := P5.mono hB.size
   have hB := qa5 hB e29
   refine ⟨A30, r25.length, c31, rfl, ?_⟩
   refine qd2 ?_
   refine ⟨_, _, _, (O3.a 2), ?_⟩
   refine qd2 ?_
   obtain ⟨hp34, H⟩ := H
   obtain ⟨r32, hr33, H⟩ := qad H
   refine (qao.con hp34 hr33 (R0_2.ext hB) hc0_2).mono ?_
   rintro _ w35 ⟨A37, c38, rfl, P6, e36⟩
   have N6_3 := P6.qa8 O3.lt
   have N6_4 := P6.qa8 O4.lt
   have O3 := O3.ext e36
   have O4 := O4.ext e36
   have O5 := O5.ext e36
   have O6 := P6.mono hB.size
   have hB := qa5 hB e36
   refine ⟨A37, r32.length, c38, rfl, ?_⟩
   refine qd2 ?_
   refine stB O3 1 #[(iv s0.Number), (sv A30 r25.length c31), (sv A0_2 s0.Regs.length c0_2)] (fun w39 P3 e40 => ?_)
   have O4_ := O4.chg e40 (N3_4).symm
   have O5_ := O5.chg e40 N5_3
   have O6_ := O6.chg e40 N6_3
   have O5 := O5_
   have O6 := O6_
   have hB := echg hB e40 L3
   have O3 := P3
   refine qd2 ?_
   refine qbI O3 (o := 2) (cs' := #[(iv s0.Number), (sv A30 r25.length c31), (sv A37 r32.length c38)]) rfl rfl (Nat.le_of_ble_eq_true rfl) rfl (fun w41 O3 e42 => ?_)
   have O4 := O4_.chg e42 (N3_4).symm
   have O5_ := O5.chg e42 N5_3
   have O6_ := O6.chg e42 N6_3
   have hB := echg hB e42 L3
   refine ⟨_, (O3.a 0), _, _, _, (O3.a 1), _, _, _, (O3.a 2), ?_⟩
   refine qbI O4 (o := 0) (cs' := #[(iv s0.Number), (sv A30 r25.length c31), (sv A37 r32.length c38)]) rfl rfl (Nat.le_of_ble_eq_true rfl) rfl (fun w43 O4 e44 => ?_)
   have O5 := O5_.chg e44 N5_4
   have O6 := O6_.chg e44 N6_4
   have hB := echg hB e44 L4
   refine ⟨_, (O4.a 0), _, _, _, (O4.a 1), _, _, _, (O4.a 2), ?_⟩
   cases hr.trans H.symm
   exact ⟨A30, c31, A37, c38, rfl, O5, O6, hB⟩
  refine And.intro ?_ ?_
  ·have H := H.2.1
   refine ⟨_, _, _, (O3.a 2), ?_⟩
   refine qd2 ?_
   obtain ⟨hp47, H⟩ := H
   obtain ⟨r45, hr46, H⟩ := qad H
   refine (qai.con hp47 hr46 (R0_1.ext hB) hc0_1).mono ?_
   rintro _ w48 ⟨A50, c51, rfl, P7, e49⟩
   have N7_3 := P7.qa8 O3.lt
   have N7_4 := P7.qa8 O4.lt
   have O3 := O3.ext e49
   have O4 := O4.ext e49
   have O7 := P7.mono hB.size
   have hB := qa5 hB e49
   refine ⟨A50, r45.length, c51, rfl, ?_⟩
   refine qd2 ?_
   obtain ⟨hp54, H⟩ := H
   obtain ⟨r52, hr53, H⟩ := qad H
   refine (qao.con hp54 hr53 (R0_2.ext hB) hc0_2).mono ?_
   rintro _ w55 ⟨A57, c58, rfl, P8, e56⟩
   have N8_3 := P8.qa8 O3.lt
   have N8_4 := P8.qa8 O4.lt
   have O3 := O3.ext e56
   have O4 := O4.ext e56
   have O7 := O7.ext e56
   have O8 := P8.mono hB.size
   have hB := qa5 hB e56
   refine ⟨A57, r52.length, c58, rfl, ?_⟩
   refine qd2 ?_
   refine stB O3 1 #[(iv s0.Number), (sv A50 r45.length c51), (sv A0_2 s0.Regs.length c0_2)] (fun w59 P3 e60 => ?_)
   have O4_ := O4.chg e60 (N3_4).symm
   have O7_ := O7.chg e60 N7_3
   have O8_ := O8.chg e60 N8_3
   have O7 := O7_
   have O8 := O8_
   have hB := echg hB e60 L3
   have O3 := P3
   refine qd2 ?_
   refine qbI O3 (o := 2) (cs' := #[(iv s0.Number), (sv A50 r45.length c51), (sv A57 r52.length c58)]) rfl rfl (Nat.le_of_ble_eq_true rfl) rfl (fun w61 O3 e62 => ?_)
   have O4 := O4_.chg e62 (N3_4).symm
   have O7_ := O7.chg e62 N7_3
   have O8_ := O8.chg e62 N8_3
   have hB := echg hB e62 L3
   refine ⟨_, (O3.a 0), _, _, _, (O3.a 1), _, _, _, (O3.a 2), ?_⟩
   refine qbI O4 (o := 0) (cs' := #[(iv s0.Number), (sv A50 r45.length c51), (sv A57 r52.length c58)]) rfl rfl (Nat.le_of_ble_eq_true rfl) rfl (fun w63 O4 e64 => ?_)
   have O7 := O7_.chg e64 N7_4
   have O8 := O8_.chg e64 N8_4
   have hB := echg hB e64 L4
   refine ⟨_, (O4.a 0), _, _, _, (O4.a 1), _, _, _, (O4.a 2), ?_⟩
   cases hr.trans H.symm
   exact ⟨A50, c51, A57, c58, rfl, O7, O8, hB⟩
  exact trivial
 refine And.intro ?_ ?_
 ·have H := H.2.1
  refine ⟨_, _, _, (O3.a 2), ?_⟩
  refine qd2 ?_
  refine ⟨_, _, _, (O3.a 1), ?_⟩
  refine qd2 ?_
  obtain ⟨hp67, H⟩ := H
  obtain ⟨r65, hr66, H⟩ := qad H
  refine (qai.con hp67 hr66 (R0_1.ext hB) hc0_1).mono ?_
  rintro _ w68 ⟨A70, c71, rfl, P9, e69⟩
  have N9_3 := P9.qa8 O3.lt
  have N9_4 := P9.qa8 O4.lt
  have O3 := O3.ext e69
  have O4 := O4.ext e69
  have O9 := P9.mono hB.size
  have hB := qa5 hB e69
  refine ⟨A70, r65.length, c71, rfl, ?_⟩
  refine qd2 ?_
  obtain ⟨hp74, H⟩ := H
  obtain ⟨r72, hr73, H⟩ := qad H
  refine (qao.con hp74 hr73 (R0_2.ext hB) hc0_2).mono ?_
  rintro _ w75 ⟨A77, c78, rfl, P10, e76⟩
  have N10_3 := P10.qa8 O3.lt
  have N10_4 := P10.qa8 O4.lt
  have O3 := O3.ext e76
  have O4 := O4.ext e76
  have O9 := O9.ext e76
  have O10 := P10.mono hB.size
  have hB := qa5 hB e76
  refine ⟨A77, r72.length, c78, rfl, ?_⟩
  refine qd2 ?_
  refine stB O3 1 #[(iv s0.Number), (sv A70 r65.length c71), (sv A0_2 s0.Regs.length c0_2)] (fun w79 P3 e80 => ?_)
  have O4_ := O4.chg e80 (N3_4).symm
  have O9_ := O9.chg e80 N9_3
  have O10_ := O10.chg e80 N10_3
  have O9 := O9_
  have O10 := O10_
  have hB := echg hB e80 L3
  have O3 := P3
  refine qd2 ?_
  refine qbI O3 (o := 2) (cs' := #[(iv s0.Number), (sv A70 r65.length c71), (sv A77 r72.length c78)]) rfl rfl (Nat.le_of_ble_eq_true rfl) rfl (fun w81 O3 e82 => ?_)
  have O4 := O4_.chg e82 (N3_4).symm
  have O9_ := O9.chg e82 N9_3
  have O10_ := O10.chg e82 N10_3
  have hB := echg hB e82 L3
  refine ⟨_, (O3.a 0), _, _, _, (O3.a 1), _, _, _, (O3.a 2), ?_⟩
  refine qbI O4 (o := 0) (cs' := #[(iv s0.Number), (sv A70 r65.length c71), (sv A77 r72.length c78)]) rfl rfl (Nat.le_of_ble_eq_true rfl) rfl (fun w83 O4 e84 => ?_)
  have O9 := O9_.chg e84 N9_4
  have O10 := O10_.chg e84 N10_4
  have hB := echg hB e84 L4
  refine ⟨_, (O4.a 0), _, _, _, (O4.a 1), _, _, _, (O4.a 2), ?_⟩
  cases hr.trans H.symm
  exact ⟨A70, c71, A77, c78, rfl, O9, O10, hB⟩
 exact trivial
def qcw.vc (A0_0 : OA) (n0_0 c0_0 : Nat) (A0_1 : OA) (n0_1 c0_1 : Nat) (A0_2 : OA) (n0_2 c0_2 : Nat) (x0_3 x0_4 : Int) (w : World) (K : VK) : Prop :=
  newK w (.cells (vB A0_0 n0_0 c0_0 A0_1 n0_1 c0_1 A0_2 n0_2 c0_2 x0_3 x0_4) 33) fun g21 w22 => newK w22 (.cells zC 33) fun g23 w24 => qfL (σ := Addr × Unit) (fun J25 => (∃ M26 : Nat → Prop, ldSM M26 w24 ((bx g21).add 0) 0 fun A27 n28 c29 => ldSM M26 w24 ((bx g21).add 2) 0 fun A30 n31 c32 => ldIM M26 w24 ((bx g21).add 3) 0 fun n33 => ldIM M26 w24 ((bx g21).add 4) 0 fun n34 => ((Cl 127 #[(sv A27 n28 c29)] w24.drew fun v35 w36 => (∃ (A37 : OA) (n38 c39 : Nat), v35 = (sv A37 n38 c39) ∧ qac M26 w24 w36 ∧ ((Cl 128 #[(sv A30 n31 c32)] w36 fun v40 w41 => (∃ (A42 : OA) (n43 c44 : Nat), v40 = (sv A42 n43 c44) ∧ qac M26 w24 w41 ∧ newK w41 (.cells zC 33) fun g45 w46 => qac M26 w24 w46 ∧ qa7 (bx g45) [(sv A37 n38 c39), (sv none 0 0), (sv A42 n43 c44), (iv n33), (iv n34)] 0 w46 fun w47 => J25 ((bx g45), ()) w47)) ∧ (newK w36 (.cells zC 33) fun g48 w49 => qac M26 w24 w49 ∧ Cl 128 #[(sv A30 n31 c32)] w49 fun v50 w51 => (∃ (A52 : OA) (n53 c54 : Nat), v50 = (sv A52 n53 c54) ∧ qac M26 w24 w51 ∧ qa7 (bx g48) [(sv A37 n38 c39), (sv none 0 0), (sv A52 n53 c54), (iv n33), (iv n34)] 0 w51 fun w55 => J25 ((bx g48), ()) w55)) ∧ True))) ∧ (newK w24.drew (.cells zC 33) fun g56 w57 => qac M26 w24 w57 ∧ Cl 127 #[(sv A27 n28 c29)] w57 fun v58 w59 => (∃ (A60 : OA) (n61 c62 : Nat), v58 = (sv A60 n61 c62) ∧ qac M26 w24 w59 ∧ Cl 128 #[(sv A30 n31 c32)] w59 fun v63 w64 => (∃ (A65 : OA) (n66 c67 : Nat), v63 = (sv A65 n66 c67) ∧ qac M26 w24 w64 ∧ qa7 (bx g56) [(sv A60 n61 c62), (sv none 0 0), (sv A65 n66 c67), (iv n33), (iv n34)] 0 w64 fun w68 => J25 ((bx g56), ()) w68))) ∧ True))) fun z69 w70 => ldS w70 (((bx g21).add 1).add 0) fun A71 n72 c73 => qdA (σ := Int × Unit) (fun z74 w75 next76 => qa1 (decide (z74.1 < ((n72 : Nat) : Int))) ((idx z74.1 n72 A71 fun a77 => ldI w75 ((a77.add ((z74.1.toNat) * 3)).add 0) fun n78 => ldS w75 ((a77.add ((z74.1.toNat) * 3)).add 1) fun A79 n80 c81 => ldS w75 ((a77.add ((z74.1.toNat) * 3)).add 2) fun A82 n83 c84 => newK w75 (.cells #[(iv 0), (sv none 0 0), (sv none 0 0)] 52) fun g85 w86 => qa7 (bx g85) [(iv n78), (sv A79 n80 c81), (sv A82 n83 c84)] 0 w86 fun w87 => (∃ M88 : Nat → Prop, ldSM M88 w87 (z69.1.add 1) 0 fun A89 n90 c91 => ldIM M88 w87 (bx g85) 0 fun n92 => ldSM M88 w87 (bx g85) 1 fun A93 n94 c95 => ldSM M88 w87 (bx g85) 2 fun A96 n97 c98 => Cl 129 #[(.agg #[(iv n92), (sv A93 n94 c95), (sv A96 n97 c98)])] w87.drew fun v99 w100 => (∃ (n101 : Int), True ∧ ∃ (A102 : OA) (n103 c104 : Nat), True ∧ ∃ (A105 : OA) (n106 c107 : Nat), True ∧ v99 = (.agg #[(iv n101), (sv A102 n103 c104), (sv A105 n106 c107)]) ∧ qac M88 w87 w100 ∧ Run Tryz.prog (Instr.buildSlice 31 1 #[(0, (.agg #[(iv n101), (sv A102 n103 c104), (sv A105 n106 c107)]))]) w100 fun v108 w109 => ∃ (A110 : OA) (n111 c112 : Nat), v108 = .slice A110 n111 c112 ∧ qac M88 w87 w109 ∧ Run Tryz.prog (Builtin.append_ #[31, 31] 31 #[(sv A89 n90 c91), (sv A110 n111 c112)]) w109 fun v113 w114 => ∃ (A115 : OA) (n116 c117 : Nat), v113 = .slice A115 n116 c117 ∧ qac M88 w87 w114 ∧ qa7 (z69.1.add 1) [(sv A115 n116 c117)] 0 w114 fun w118 => next76 ((wrap .i64 (z74.1 + 1)), ()) w118)))) (ldS w75 (z69.1.add 0) fun A119 n120 c121 => ldS w75 (z69.1.add 1) fun A122 n123 c124 => ldS w75 (z69.1.add 2) fun A125 n126 c127 => ldI w75 (z69.1.add 3) fun n128 => ldI w75 (z69.1.add 4) fun n129 => qa7 (bx g23) [(sv A119 n120 c121), (sv A122 n123 c124), (sv A125 n126 c127), (iv n128), (iv n129)] 0 w75 fun w130 => ldB w130 (bx g23) fun A131 n132 c133 A134 n135 c136 A137 n138 c139 n140 n141 => K (.agg (vB A131 n132 c133 A134 n135 c136 A137 n138 c139 n140 n141)) w130)) (0, ()) w70

def qcw.ann : Ann := (.seq .l (.cut [(3, .ptr)] .l (.seq (.seq .l (.one (.loop [(20, .int .i64)] (.seq .l (.seq (.two .l .l) (.seq (.one (.seq .l .l)) .l)))))) (.seq .l .l))))

theorem qcw.con {s0 r : D.Block} {A0_0 A0_1 A0_2 : OA} {c0_0 c0_1 c0_2 : Nat} {w : World} (hp : M.qfK s0) (hr : r = M.qcw s0) (R0_0 : Row el84 w A0_0 s0.Code) (hc0_0 : s0.Code.length ≤ c0_0) (R0_1 : RowW 52 el91 el3 w A0_1 s0.Warps) (hc0_1 : s0.Warps.length ≤ c0_1) (R0_2 : Row el3 w A0_2 s0.Memory) (hc0_2 : s0.Memory.length ≤ c0_2) :
    Cl 69 #[(.agg (bC A0_0 c0_0 A0_1 c0_1 A0_2 c0_2 s0))] w (fun v_ w_ => ∃ (A0_ : OA) (c0_ : Nat) (A1_ : OA) (c1_ : Nat) (F1_ : Nat → Prop) (A2_ : OA) (c2_ : Nat), v_ = (.agg (bC A0_ c0_ A1_ c1_ A2_ c2_ r)) ∧ Own el84 w_ w.heap.size A0_ c0_ r.Code ∧ OwnW 52 el91 el3 w_ w.heap.size F1_ A1_ c1_ r.Warps ∧ Own el3 w_ w.heap.size A2_ c2_ r.Memory ∧ Dis (InW A1_ F1_) (InB A2_) ∧ Ext w w_) := by
 have H := wp.qcw.math s0 hp
 refine begK mixed Tryz.f69 ann (vc A0_0 s0.Code.length c0_0 A0_1 s0.Warps.length c0_1 A0_2 s0.Memory.length c0_2 s0.Waiting s0.Phase) ?_
 unfold vc
 unfold wp.qcw at H
 refine qax (fun g4_ w21 L4 O4 e22 => ?_)
 have hB := qa5 (Ext.refl w) e22
 refine qax (fun g5_ w23 L5 P5 e24 => ?_)
 have O4 := O4.ext e24
 have O5 := P5
 have L5 := Nat.le_trans hB.size L5
 have hB := qa5 hB e24
 obtain ⟨K329, hKK329, H⟩ := qcR H
 refine ⟨fun z_ w_ => ∃ (xs25 : List D.Ins) (xs29 : List D.Warp) (xs32 : List Int) (i35 i36 : Int) (g14_ : Nat) (A26 : OA) (c27 : Nat) (A30 : OA) (c31 : Nat) (F28 : Nat → Prop) (A33 : OA) (c34 : Nat), z_ = ((bx g14_), ()) ∧ K329 (xs25, xs29, xs32, i35, i36, ()) ∧ Ext w w_ ∧ Blk w_ g14_ 33 #[(sv A26 xs25.length c27), (sv A30 xs29.length c31), (sv A33 xs32.length c34), (iv i35), (iv i36)] ∧ w.heap.size ≤ g14_ ∧ Own el84 w_ w.heap.size A26 c27 xs25 ∧ OwnW 52 el91 el3 w_ w.heap.size F28 A30 c31 xs29 ∧ Own el3 w_ w.heap.size A33 c34 xs32 ∧ Blk w_ g4_ 33 (bC A0_0 c0_0 A0_1 c0_1 A0_2 c0_2 s0) ∧ Blk w_ g5_ 33 zC ∧ g4_ ≠ g14_ ∧ g5_ ≠ g14_ ∧ Dis (InW A30 F28) (InB A33), ?_, ?_⟩
 ·refine ⟨(fun _ => False), _, _, _, noM (O4.a 0), _, _, _, noM (O4.a 2), _, noM (O4.a 3), _, noM (O4.a 4), ?_⟩
  refine And.intro ?_ ?_
  ·have H := H.1
   have O4 := O4.ext (Ext.drew _)
   have O5 := O5.ext (Ext.drew _)
   have hB := qa5 hB (Ext.drew _)
   have hS40 := (Chg.refl (fun _ => False) w23).then (Ext.drew _)
   obtain ⟨hp43, H⟩ := H
   obtain ⟨r41, hr42, H⟩ := qad H
   refine (qan.con hp43 hr42 (R0_0.ext hB) hc0_0).mono ?_
   rintro _ w44 ⟨A46, c47, rfl, P18, e45⟩
   have O4 := O4.ext e45
   have O5 := O5.ext e45
   have O18 := P18.mono hB.size
   have hB := qa5 hB e45
   have hS40 := hS40.then e45
   refine ⟨A46, r41.length, c47, rfl, qa2 hS40, ?_⟩
   refine And.intro ?_ ?_
   ·have H := H.1
    obtain ⟨hp50, H⟩ := H
    obtain ⟨r48, hr49, H⟩ := qad H
    refine (qao.con hp50 hr49 (R0_2.ext hB) hc0_2).mono ?_
    rintro _ w51 ⟨A53, c54, rfl, P19, e52⟩
    have O4 := O4.ext e52
    have O5 := O5.ext e52
    have O18 := O18.ext e52
    have O19 := P19.mono hB.size
    have hB := qa5 hB e52
    have hS40 := hS40.then e52
    refine ⟨A53, r48.length, c54, rfl, qa2 hS40, ?_⟩
    refine qax (fun g20_ w55 L20 P20 e56 => ?_)
    have N4_20 := O4.ne L20
    have N5_20 := O5.ne L20
    have N18_20 := O18.qag L20
    have N19_20 := O19.qag L20
    have O20 := P20
    have L20 := Nat.le_trans hB.size L20
    have hB := qa5 hB e56
    have hS40 := hS40.then e56
    refine ⟨qa2 hS40, ?_⟩
    refine qbI O20 (o := 0) (cs' := #[(sv A46 r41.length c47), (sv none 0 0), (sv A53 r48.length c54), (iv s0.Waiting), (iv s0.Phase)]) rfl rfl (Nat.le_of_ble_eq_true rfl) rfl (fun w57 O20 e58 => ?_)
    have O4 := (O4.ext e56).chg e58 N4_20
    have O5 := (O5.ext e56).chg e58 N5_20
    have O18 := (O18.ext e56).chg e58 N18_20
    have O19 := (O19.ext e56).chg e58 N19_20
    have hB := echg hB e58 L20
    exact ⟨r41, [], r48, _, _, g20_, A46, c47, none, 0, (fun _ => False), A53, c54, rfl, H, hB, O20, L20, O18, OwnW.nil, O19, O4, O5, N4_20, N5_20, qcc⟩
   refine And.intro ?_ ?_
   ·have H := H.2.1
    refine qax (fun g21_ w59 L21 P21 e60 => ?_)
    have N4_21 := O4.ne L21
    have N5_21 := O5.ne L21
    have N18_21 := O18.qag L21
    have O21 := P21
    have L21 := Nat.le_trans hB.size L21
    have hB := qa5 hB e60
    have hS40 := hS40.then e60
    refine ⟨qa2 hS40, ?_⟩
    obtain ⟨hp63, H⟩ := H
    obtain ⟨r61, hr62, H⟩ := qad H
    refine (qao.con hp63 hr62 (R0_2.ext hB) hc0_2).mono ?_
    rintro _ w64 ⟨A66, c67, rfl, P22, e65⟩
    have N22_21 := P22.qa8 O21.lt
    have O21 := O21.ext e65
    have O22 := P22.mono hB.size
    have hB := qa5 hB e65
    have hS40 := hS40.then e65
    refine ⟨A66, r61.length, c67, rfl, qa2 hS40, ?_⟩
    refine qbI O21 (o := 0) (cs' := #[(sv A46 r41.length c47), (sv none 0 0), (sv A66 r61.length c67), (iv s0.Waiting), (iv s0.Phase)]) rfl rfl (Nat.le_of_ble_eq_true rfl) rfl (fun w68 O21 e69 => ?_)
    have O4 := ((O4.ext e60).ext e65).chg e69 N4_21
    have O5 := ((O5.ext e60).ext e65).chg e69 N5_21
    have O18 := ((O18.ext e60).ext e65).chg e69 N18_21
    have O22 := O22.chg e69 N22_21
    have hB := echg hB e69 L21
    exact ⟨r41, [], r61, _, _, g21_, A46, c47, none, 0, (fun _ => False), A66, c67, rfl, H, hB, O21, L21, O18, OwnW.nil, O22, O4, O5, N4_21, N5_21, qcc⟩
   exact trivial
  refine And.intro ?_ ?_
  ·have H := H.2.1
   have O4 := O4.ext (Ext.drew _)
   have O5 := O5.ext (Ext.drew _)
   have hB := qa5 hB (Ext.drew _)
   refine qax (fun g23_ w70 L23 P23 e71 => ?_)
   have N4_23 := O4.ne L23
   have N5_23 := O5.ne L23
   have O23 := P23
   have L23 := Nat.le_trans hB.size L23
   have hB := qa5 hB e71
   have hS40 := ((Chg.refl (fun _ => False) w23).then (Ext.drew _)).then e71
   refine ⟨qa2 hS40, ?_⟩
   obtain ⟨hp74, H⟩ := H
   obtain ⟨r72, hr73, H⟩ := qad H
   refine (qan.con hp74 hr73 (R0_0.ext hB) hc0_0).mono ?_
   rintro _ w75 ⟨A77, c78, rfl, P24, e76⟩
   have N24_23 := P24.qa8 O23.lt
   have O23 := O23.ext e76
   have O24 := P24.mono hB.size
   have hB := qa5 hB e76
   have hS40 := hS40.then e76
   refine ⟨A77, r72.length, c78, rfl, qa2 hS40, ?_⟩
   obtain ⟨hp81, H⟩ := H
   obtain ⟨r79, hr80, H⟩ := qad H
   refine (qao.con hp81 hr80 (R0_2.ext hB) hc0_2).mono ?_
   rintro _ w82 ⟨A84, c85, rfl, P25, e83⟩
   have N25_23 := P25.qa8 O23.lt
   have O23 := O23.ext e83
   have O25 := P25.mono hB.size
   have hB := qa5 hB e83
   have hS40 := hS40.then e83
   refine ⟨A84, r79.length, c85, rfl, qa2 hS40, ?_⟩
   refine qbI O23 (o := 0) (cs' := #[(sv A77 r72.length c78), (sv none 0 0), (sv A84 r79.length c85), (iv s0.Waiting), (iv s0.Phase)]) rfl rfl (Nat.le_of_ble_eq_true rfl) rfl (fun w86 O23 e87 => ?_)
   have O4 := (((O4.ext e71).ext e76).ext e83).chg e87 N4_23
   have O5 := (((O5.ext e71).ext e76).ext e83).chg e87 N5_23
   have O24 := (O24.ext e83).chg e87 N24_23
   have O25 := O25.chg e87 N25_23
   have hB := echg hB e87 L23
   exact ⟨r72, [], r79, _, _, g23_, A77, c78, none, 0, (fun _ => False), A84, c85, rfl, H, hB, O23, L23, O24, OwnW.nil, O25, O4, O5, N4_23, N5_23, qcc⟩
  exact trivial
 rintro _ w38 ⟨xs25, xs29, xs32, i35, i36, g14_, A26, c27, A30, c31, F28, A33, c34, rfl, H, hB, O14, L14, O15, O16, O17, O4, O5, N4_14, N5_14, N16_17⟩
 have H := hKK329 _ H
 try dsimp only at H ⊢
 refine ⟨_, _, _, (O4.a 1), ?_⟩
 obtain ⟨J247, ⟨m326, hJ325⟩, hS248⟩ := H
 refine ⟨fun m_ z_ w_ => ∃ (i239 : Int) (xs241 : List D.Warp) (i244 i245 : Int) (A242 : OA) (c243 : Nat) (F240 : Nat → Prop), z_ = (i239, ()) ∧ J247 m_ (i239, xs241, i244, i245, ()) ∧ Ext w w_ ∧ Blk w_ g14_ 33 #[(sv A26 xs25.length c27), (sv A242 xs241.length c243), (sv A33 xs32.length c34), (iv i244), (iv i245)] ∧ OwnW 52 el91 el3 w_ w.heap.size F240 A242 c243 xs241 ∧ Blk w_ g5_ 33 zC ∧ Own el84 w_ w.heap.size A26 c27 xs25 ∧ Own el3 w_ w.heap.size A33 c34 xs32 ∧ Dis (InW A242 F240) (InB A33), ⟨m326, 0, xs29, i35, i36, A30, c31, F28, rfl, hJ325, hB, O14, O16, O5, O15, O17, N16_17⟩, ?_⟩
 rintro m246 _ w250 ⟨i239, xs241, i244, i245, A242, c243, F240, rfl, hJ327, hB, O14, O44, O5, O15, O17, N44_17⟩
 have H := hS248 m246 _ hJ327
 clear hS248 hJ327
 try dsimp only at H ⊢
 refine brc H (fun h H => ?_) fun h H => ?_
 ·obtain ⟨⟨h0_254, h1_255⟩, H⟩ := H
  obtain ⟨a252, ha253, A259, c260, A261, c262, f256, f257, f258, R263, hle265, R264, hle266⟩ := RowW.at R0_1 h0_254 h1_255
  refine ⟨h0_254, h1_255, a252, ha253, _, (Ext.cell hB f256), _, _, _, (Ext.cell hB f257), _, _, _, (Ext.cell hB f258), ?_⟩
  refine qax (fun g47_ w267 L47 P47 e268 => ?_)
  have N5_47 := O5.ne L47
  have N14_47 := O14.ne L47
  have N15_47 := O15.qag L47
  have N17_47 := O17.qag L47
  have N44_47 := O44.qcv L47
  have O5 := O5.ext e268
  have O15 := O15.ext e268
  have O17 := O17.ext e268
  have O44 := O44.ext e268
  have O47 := P47
  have L47 := Nat.le_trans hB.size L47
  have hB := qa5 hB e268
  refine qbI O47 (o := 0) (cs' := #[(iv ((rd s0.Warps i239).Number)), (sv A259 ((rd s0.Warps i239).Frames.length) c260), (sv A261 ((rd s0.Warps i239).Regs.length) c262)]) rfl rfl (Nat.le_of_ble_eq_true rfl) rfl (fun w269 O47 e270 => ?_)
  have O5_ := O5.chg e270 N5_47
  have O14 := (O14.ext e268).chg e270 N14_47
  have O15_ := O15.chg e270 N15_47
  have O17_ := O17.chg e270 N17_47
  have O44_ := O44.chg e270 N44_47
  have O44 := O44_
  refine ⟨(InB A242), _, _, _, ⟨(qh3 (fun h_ => (O44.qda O14 (by decide) (by decide) (by decide)) (Or.inl h_)) (by first | rfl | (simp only [qe6]))), (O14.a 1)⟩, _, ⟨(qh3 (fun h_ => N44_47 (Or.inl h_)) (by first | rfl | (simp only [qe6]))), (O47.a 0)⟩, _, _, _, ⟨(qh3 (fun h_ => N44_47 (Or.inl h_)) (by first | rfl | (simp only [qe6]))), (O47.a 1)⟩, _, _, _, ⟨(qh3 (fun h_ => N44_47 (Or.inl h_)) (by first | rfl | (simp only [qe6]))), (O47.a 2)⟩, ?_⟩
  have O5 := O5_.ext (Ext.drew _)
  have O14 := O14.ext (Ext.drew _)
  have O15 := O15_.ext (Ext.drew _)
  have O17 := O17_.ext (Ext.drew _)
  have O44 := O44.ext (Ext.drew _)
  have O47 := O47.ext (Ext.drew _)
  have hB := qa5 (echg hB e270 L47) (Ext.drew _)
  have hS271 := (Chg.refl (InB A242) w269).then (Ext.drew _)
  obtain ⟨hp296, H⟩ := H
  obtain ⟨r294, hr295, H⟩ := qad H
  refine (cllA (qcJ.con hp296 hr295 (R263.ext hB) hle265 (R264.ext hB) hle266)).mono ?_
  rintro _ w297 ⟨A299, c300, A301, c302, rfl, P51, P52, e298⟩
  have N17_51 := aN O17 P51
  have N44_51 := O44.qf0 P51 (Nat.le_refl _)
  have N51_47 := P51.qa8 O47.lt
  have N17_52 := aN O17 P52
  have N44_52 := O44.qf0 P52 (Nat.le_refl _)
  have N52_47 := P52.qa8 O47.lt
  have O17 := O17.ext e298
  have O44 := O44.ext e298
  have O47 := O47.ext e298
  have LB51 := (P51.mono hS271.size).low
  have LB52 := (P52.mono hS271.size).low
  have O51 := P51.mono hB.size
  have O52 := P52.mono hB.size
  have hB := qa5 hB e298
  have hS271 := hS271.then e298
  refine ⟨r294.Number, trivial, A299, r294.Frames.length, c300, trivial, A301, r294.Regs.length, c302, trivial, rfl, qa2 hS271, ?_⟩
  refine qap (elH 52) ([⟨r294, A299, c300, A301, c302⟩] : List HW) (fun _ => by kernel_rfl) rfl (fun A303 w304 P53 e305 => ?_)
  have Q53 : OwnW 52 el91 el3 _ _ _ _ _ _ := OwnW.one (P53.mono hB.size) (O51.ext e305) (O52.ext e305)
  have N53_17 : Dis (InW A303 (fun g => InB A299 g ∨ InB A301 g)) (InB A33) := fun g h_ hx_ => h_.elim (fun h_ => (Own.qep O17 P53 (Nat.le_refl _)).inb g hx_ h_) (fun h_ => h_.elim (fun h_ => ((N17_51).symm).inb g h_ hx_) (fun h_ => ((N17_52).symm).inb g h_ hx_))
  have N53_44 : Dis (InW A303 (fun g => InB A299 g ∨ InB A301 g)) (InW A242 F240) := fun g h_ hx_ => h_.elim (fun h_ => O44.qf0 P53 (Nat.le_refl _) g hx_ h_) (fun h_ => h_.elim (fun h_ => N44_51 g hx_ h_) (fun h_ => N44_52 g hx_ h_))
  have N53_47 : ¬ InW A303 (fun g => InB A299 g ∨ InB A301 g) g47_ := fun h_ => h_.elim (fun h_ => P53.qa8 O47.lt |>.inb h_) (fun h_ => h_.elim (N51_47).inb (N52_47).inb)
  have O5 := (O5.ext e298).ext e305
  have O14 := (O14.ext e298).ext e305
  have O15 := (O15.ext e298).ext e305
  have O17 := O17.ext e305
  have O44 := O44.ext e305
  have LB53 : ∀ g, InW A303 (fun g => InB A299 g ∨ InB A301 g) g → _ := fun g h_ => h_.elim ((P53.mono hS271.size).low g) (fun h_ => h_.elim (fun h_ => LB51 g h_) (fun h_ => LB52 g h_))
  have O53 := Q53
  have hB := qa5 hB e305
  have hS271 := hS271.then e305
  refine ⟨qa2 hS271, ?_⟩
  obtain ⟨hl315, H⟩ := H
  refine qlO qmk qmk.under O44 O53 (N53_44).symm (by decide) (by decide) hB.size rfl (by first | rfl | omega | (simp; done) | (simp; omega)) hl315 (fun A311 c312 w313 P44 e314 => ?_)
  have O5 := O5.app e314 (fun a_ ha_ hb_ => (O44.qda O5 (by decide) (by decide) (by decide)) (Or.inl ⟨a_, ha_, hb_⟩))
  have O14 := O14.app e314 (fun a_ ha_ hb_ => (O44.qda O14 (by decide) (by decide) (by decide)) (Or.inl ⟨a_, ha_, hb_⟩))
  have O15 := O15.app e314 (fun a_ b_ ha_ hb_ hab_ => (O44.qhk O15 (by decide) (by decide) (by decide)) _ (Or.inl ⟨b_, hb_, rfl⟩) ⟨a_, ha_, hab_⟩)
  have N44_17_ := qlM N44_17 N53_17 e314 O17
  have O17 := O17.app e314 (fun a_ b_ ha_ hb_ hab_ => N44_17 _ (Or.inl ⟨b_, hb_, rfl⟩) ⟨a_, ha_, hab_⟩)
  have N44_17 := N44_17_
  have hS271 := hS271.app e314 (fun g h_ => (Or.inr h_))
  have hB := qo3 hB e314 O44
  have O44 := P44
  refine ⟨qa2 hS271, ?_⟩
  refine stB O14 1 #[(sv A26 xs25.length c27), (sv A311 (((xs241 ++ ([r294] : List D.Warp))).length) c312), (sv A33 xs32.length c34), (iv i244), (iv i245)] (fun w316 P14 e317 => ?_)
  have O5 := O5.chg e317 N5_14
  have O15 := O15.chg e317 (O15.qa6 O14 (by decide))
  have O17 := O17.chg e317 (O17.qa6 O14 (by decide))
  have O44 := O44.chg e317 (O44.qda O14 (by decide) (by decide) (by decide))
  have hB := echg hB e317 L14
  have O14 := P14
  obtain ⟨m318, hm319, hJ320⟩ := H
  exact ⟨m318, hm319, _, _, i244, i245, A311, c312, (fun g => F240 g ∨ (fun g => InB A299 g ∨ InB A301 g) g), rfl, hJ320, hB, O14, O44, O5, O15, O17, N44_17⟩
 refine ⟨_, _, _, (O14.a 0), _, _, _, (O14.a 1), _, _, _, (O14.a 2), _, (O14.a 3), _, (O14.a 4), ?_⟩
 refine stB O5 0 #[(sv A26 xs25.length c27), (sv A242 xs241.length c243), (sv A33 xs32.length c34), (iv i244), (iv i245)] (fun w321 P5 e322 => ?_)
 have O15 := O15.chg e322 (O15.qa6 O5 (by decide))
 have O17 := O17.chg e322 (O17.qa6 O5 (by decide))
 have O44 := O44.chg e322 (O44.qda O5 (by decide) (by decide) (by decide))
 have hB := echg hB e322 L5
 have O5 := P5
 refine ⟨_, _, _, (O5.a 0), _, _, _, (O5.a 1), _, _, _, (O5.a 2), _, (O5.a 3), _, (O5.a 4), ?_⟩
 cases hr.trans H.symm
 exact ⟨A26, c27, A242, c243, F240, A33, c34, rfl, O15, O44, O17, N44_17, hB⟩
def qbu.vc (x0_0 : Int) (A0_1 : OA) (n0_1 c0_1 : Nat) (A0_2 : OA) (n0_2 c0_2 : Nat) (x1 : Int) (w : World) (K : VK) : Prop :=
  newK w (.cells #[(iv x0_0), (sv A0_1 n0_1 c0_1), (sv A0_2 n0_2 c0_2)] 52) fun g21 w22 => ldS w22 (((bx g21).add 2).add 0) fun A23 n24 c25 => ((0 : Int) ≤ (wrap .i64 ((wrap .i64 (x1 + 1)) * 4)) ∧ (wrap .i64 ((wrap .i64 (x1 + 1)) * 4)) ≤ ((c25 : Nat) : Int) ∧ ((0 : Int) ≤ (wrap .i64 (x1 * 4)) ∧ (wrap .i64 (x1 * 4)) ≤ ((((wrap .i64 ((wrap .i64 (x1 + 1)) * 4)).toNat) : Nat) : Int) ∧ K (sv (if c25 = ((wrap .i64 (x1 * 4)).toNat) then A23 else A23.map (·.add (((wrap .i64 (x1 * 4)).toNat) * szOf Tryz.prog 3))) (((wrap .i64 ((wrap .i64 (x1 + 1)) * 4)).toNat) - ((wrap .i64 (x1 * 4)).toNat)) (c25 - ((wrap .i64 (x1 * 4)).toNat))) w22))

def qbu.ann : Ann := (.seq .l (.seq .l .l))

theorem qbu.qoI (x0_0 : Int) (A0_1 : OA) (n0_1 c0_1 : Nat) (A0_2 : OA) (n0_2 c0_2 : Nat) (x1 : Int) (w : World) (K : Value → World → Prop) : vcF Tryz.prog Tryz.f107 qbu.ann [(.agg #[(iv x0_0), (sv A0_1 n0_1 c0_1), (sv A0_2 n0_2 c0_2)]), (iv x1)] K w = qbu.vc x0_0 A0_1 n0_1 c0_1 A0_2 n0_2 c0_2 x1 w K := by kernel_rfl

theorem qbu.start {x0_0 : Int} {A0_1 : OA} {n0_1 c0_1 : Nat} {A0_2 : OA} {n0_2 c0_2 : Nat} {x1 : Int} {w : World} {K : Value → World → Prop} (h : qbu.vc x0_0 A0_1 n0_1 c0_1 A0_2 n0_2 c0_2 x1 w K) : Cl 107 #[(.agg #[(iv x0_0), (sv A0_1 n0_1 c0_1), (sv A0_2 n0_2 c0_2)]), (iv x1)] w K :=
  qex mixed (fn := Tryz.f107) (by kernel_rfl) (by kernel_rfl) (an := qbu.ann) (args := [(.agg #[(iv x0_0), (sv A0_1 n0_1 c0_1), (sv A0_2 n0_2 c0_2)]), (iv x1)]) (by rw [qbu.qoI]; exact h)
end Go.V
set_option linter.unusedVariables false
set_option linter.unusedSimpArgs false
set_option maxRecDepth 100000
namespace Go.V
open IntKind (wrap)
open Go.Proofs
/-- a lane's registers: a cut of the warp's -/
theorem qbu.con {s0 : D.Warp} {A0_1 : Option Addr} {c0_1 : Nat} {A0_2 : Option Addr} {c0_2 : Nat} {x1 : Int} {w : World} (hp : M.qec s0 x1) (R0_1 : Row el91 w A0_1 s0.Frames) (hc0_1 : s0.Frames.length ≤ c0_1) (R0_2 : Row el3 w A0_2 s0.Regs) (hc0_2 : s0.Regs.length ≤ c0_2) :
    Cll Tryz.prog 107 #[(.agg #[(.int .i64 s0.Number), (.slice A0_1 s0.Frames.length c0_1), (.slice A0_2 s0.Regs.length c0_2)]), (.int .i64 x1)] w (fun v_ w_ => v_ = (.slice (cutA c0_2 ((IntKind.wrap .i64 (x1 * 4)).toNat) A0_2 1) (List.drop ((IntKind.wrap .i64 (x1 * 4)).toNat) (List.take ((IntKind.wrap .i64 ((IntKind.wrap .i64 (x1 + 1)) * 4)).toNat) s0.Regs)).length (c0_2 - (IntKind.wrap .i64 (x1 * 4)).toNat)) ∧ Ext w w_) := by
  obtain ⟨h32, h0, h7⟩ := hp
  refine qbu.start ?_
  unfold qbu.vc
  refine qax fun g w1 L P e => ?_
  have a1 : IntKind.wrap .i64 (x1 * 4) = x1 * 4 := w64 (by omega) (by omega)
  have a2 : IntKind.wrap .i64 ((IntKind.wrap .i64 (x1 + 1)) * 4) = x1 * 4 + 4 := by rw [w64 (x := x1 + 1) (by omega) (by omega), w64 (by omega) (by omega)]; omega
  refine ⟨_, _, _, P.at 2 rfl rfl, ?_⟩
  rw [a1, a2]
  refine ⟨by omega, by omega, by omega, by omega, ?_, e⟩
  have hl : (List.drop (x1 * 4).toNat (List.take (x1 * 4 + 4).toNat s0.Regs)).length = (x1 * 4 + 4).toNat - (x1 * 4).toNat := by simp; omega
  rw [hl]
  have hz : szOf Tryz.prog 3 = 1 := by kernel_rfl
  rw [hz]
  rfl
theorem qbu.cut {x : D.Warp} {l : Int} (h : M.qec x l) : (IntKind.wrap .i64 (l * 4)).toNat ≤ (List.take ((IntKind.wrap .i64 ((IntKind.wrap .i64 (l + 1)) * 4)).toNat) x.Regs).length := by
  obtain ⟨h1, h2, h3⟩ := h
  rw [w64 (x := l * 4) (by omega) (by omega), w64 (x := l + 1) (by omega) (by omega), w64 (by omega) (by omega), List.length_take]
  omega
def qbE.vc (x0_0 : Int) (A0_1 : OA) (n0_1 c0_1 : Nat) (A0_2 : OA) (n0_2 c0_2 : Nat) (w : World) (K : VK) : Prop :=
  newK w (.cells #[(iv x0_0), (sv A0_1 n0_1 c0_1), (sv A0_2 n0_2 c0_2)] 52) fun g21 w22 => ldS w22 (((bx g21).add 1).add 0) fun A23 n24 c25 => qa1 (((n24 : Nat) : Int) == 0) (K (iv 0) w22) (ldS w22 (((bx g21).add 1).add 0) fun A26 n27 c28 => ldS w22 (((bx g21).add 1).add 0) fun A29 n30 c31 => (idx (wrap .i64 (((n30 : Nat) : Int) - 1)) n27 A26 fun a32 => ldI w22 (((a32.add (((wrap .i64 (((n30 : Nat) : Int) - 1)).toNat) * 3)).add 2).add 0) fun n33 => K (iv n33) w22))

def qbE.ann : Ann := (.seq .l (.seq (.seq .l (.two (.seq .l .l) .l)) (.seq .l .l)))

theorem qbE.con {s0 : D.Warp} {A0_1 A0_2 : OA} {c0_1 c0_2 : Nat} {r : Int} {w : World} (hp : M.qe7 s0) (hr : r = M.qbE s0) (R0_1 : Row el91 w A0_1 s0.Frames) (hc0_1 : s0.Frames.length ≤ c0_1) (R0_2 : Row el3 w A0_2 s0.Regs) (hc0_2 : s0.Regs.length ≤ c0_2) :
    Cl 100 #[(.agg (wC A0_1 c0_1 A0_2 c0_2 s0))] w (fun v_ w_ => v_ = (iv r) ∧ Ext w w_) := by
 have H := wp.qbE.math s0 hp
 refine begK mixed Tryz.f100 ann (vc s0.Number A0_1 s0.Frames.length c0_1 A0_2 s0.Regs.length c0_2) ?_
 unfold vc
 unfold wp.qbE at H
 refine qax (fun g3_ w21 L3 O3 e22 => ?_)
 have hB := qa5 (Ext.refl w) e22
 refine ⟨_, _, _, (O3.a 1), ?_⟩
 refine brc H (fun h H => ?_) fun h H => ?_
 ·cases hr.trans H.symm
  exact ⟨rfl, hB⟩
 refine ⟨_, _, _, (O3.a 1), _, _, _, (O3.a 1), ?_⟩
 obtain ⟨⟨h0_26, h1_27⟩, H⟩ := H
 obtain ⟨a24, ha25, hat23⟩ := Row.at (R0_1.ext hB) h0_26 h1_27
 refine ⟨h0_26, h1_27, a24, ha25, _, (hat23 2 _ rfl), ?_⟩
 cases hr.trans H.symm
 exact ⟨rfl, hB⟩
def qaO.vc (x0_0 : Int) (A0_1 : OA) (n0_1 c0_1 : Nat) (A0_2 : OA) (n0_2 c0_2 : Nat) (x1 : Int) (w : World) (K : VK) : Prop :=
  newK w (.cells #[(iv x0_0), (sv A0_1 n0_1 c0_1), (sv A0_2 n0_2 c0_2)] 52) fun g21 w22 => Cl 220 #[(iv x1)] w22 fun v24 w25 => (∃ (b26 : Bool), v24 = (.bool b26) ∧ qa1 (!b26) (K (iv 0) w25) (ldS w25 (((bx g21).add 2).add 0) fun A27 n28 c29 => qa1 (((n28 : Nat) : Int) != 32) (K (iv 0) w25) (qdA (σ := Int × Int × Unit) (fun z30 w31 next32 => qa1 (decide (z30.2.1 < 8)) (ldI w31 ((bx g21).add 0) fun n33 => ldS w31 ((bx g21).add 1) fun A34 n35 c36 => ldS w31 ((bx g21).add 2) fun A37 n38 c39 => Cl 100 #[(.agg #[(iv n33), (sv A34 n35 c36), (sv A37 n38 c39)])] w31 fun v40 w41 => (∃ (n42 : Int), v40 = (iv n42) ∧ Cl 101 #[(iv n42), (iv z30.2.1)] w41 fun v43 w44 => (∃ (b45 : Bool), v43 = (.bool b45) ∧ qa1 b45 (ldS w44 (((bx g21).add 2).add 0) fun A46 n47 c48 => (idx (wrap .i64 ((wrap .i64 (z30.2.1 * 4)) + x1)) n47 A46 fun a49 => ldI w44 ((a49.add (((wrap .i64 ((wrap .i64 (z30.2.1 * 4)) + x1)).toNat) * 1)).add 0) fun n50 => qa1 (n50 == 0) (((0 : Int) ≤ z30.2.1 ∧ next32 ((qgS .i64 z30.1 (wrap .i64 (1 * 2 ^ (min (z30.2.1.toNat) (IntKind.bits .i64))))), (wrap .i64 (z30.2.1 + 1)), ()) w44)) (next32 (z30.1, (wrap .i64 (z30.2.1 + 1)), ()) w44))) (next32 (z30.1, (wrap .i64 (z30.2.1 + 1)), ()) w44)))) (K (iv z30.1) w31)) (0, 0, ()) w25)))

def qaO.ann : Ann := (.seq .l (.seq (.seq .l (.two (.seq .l .l) .l)) (.seq .l (.seq (.seq .l (.one (.loop [(5, .int .i64), (6, .int .i64)] (.seq (.seq .l (.two .l .l)) (.seq (.one (.seq .l (.two .l .l))) .l))))) (.seq .l .l)))))

theorem qaO.con {s0 : D.Warp} {A0_1 A0_2 : OA} {c0_1 c0_2 : Nat} {x1 r : Int} {w : World} (hp : M.qe1 s0 x1) (hr : r = M.qaO s0 x1) (R0_1 : Row el91 w A0_1 s0.Frames) (hc0_1 : s0.Frames.length ≤ c0_1) (R0_2 : Row el3 w A0_2 s0.Regs) (hc0_2 : s0.Regs.length ≤ c0_2) :
    Cl 205 #[(.agg (wC A0_1 c0_1 A0_2 c0_2 s0)), (iv x1)] w (fun v_ w_ => v_ = (iv r) ∧ Ext w w_) := by
 have H := wp.qaO.math s0 x1 hp
 refine begK mixed Tryz.f205 ann (vc s0.Number A0_1 s0.Frames.length c0_1 A0_2 s0.Regs.length c0_2 x1) ?_
 unfold vc
 unfold wp.qaO at H
 refine qax (fun g3_ w21 L3 O3 e22 => ?_)
 obtain ⟨r23, hr24, H⟩ := qad H
 refine (qaZ.con hr24 ).mono ?_
 rintro _ w26 ⟨rfl, e27⟩
 have O3 := O3.ext e27
 have hB := qa5 (qa5 (Ext.refl w) e22) e27
 refine ⟨r23, rfl, ?_⟩
 refine brc H (fun h H => ?_) fun h H => ?_
 ·cases hr.trans H.symm
  exact ⟨rfl, hB⟩
 refine ⟨_, _, _, (O3.a 2), ?_⟩
 refine brc H (fun h H => ?_) fun h H => ?_
 ·cases hr.trans H.symm
  exact ⟨rfl, hB⟩
 obtain ⟨J31, ⟨m65, hJ64⟩, hS32⟩ := H
 refine ⟨fun m_ z_ w_ => ∃ (i28 i29 : Int), z_ = (i28, i29, ()) ∧ J31 m_ (i28, i29, ()) ∧ Ext w w_ ∧ Blk w_ g3_ 52 (wC A0_1 c0_1 A0_2 c0_2 s0), ⟨m65, 0, 0, rfl, hJ64, hB, O3⟩, ?_⟩
 rintro m30 _ w34 ⟨i28, i29, rfl, hJ66, hB, O3⟩
 have H := hS32 m30 _ hJ66
 clear hS32 hJ66
 try dsimp only at H ⊢
 refine brc H (fun h H => ?_) fun h H => ?_
 ·refine ⟨_, (O3.a 0), _, _, _, (O3.a 1), _, _, _, (O3.a 2), ?_⟩
  obtain ⟨hp37, H⟩ := H
  obtain ⟨r35, hr36, H⟩ := qad H
  refine (qbE.con hp37 hr36 (R0_1.ext hB) hc0_1 (R0_2.ext hB) hc0_2).mono ?_
  rintro _ w38 ⟨rfl, e39⟩
  refine ⟨r35, rfl, ?_⟩
  obtain ⟨r40, hr41, H⟩ := qad H
  refine (qbG.con hr41 ).mono ?_
  rintro _ w43 ⟨rfl, e44⟩
  have O3 := (O3.ext e39).ext e44
  have hB := qa5 (qa5 hB e39) e44
  refine ⟨r40, rfl, ?_⟩
  refine brc H (fun h H => ?_) fun h H => ?_
  ·refine ⟨_, _, _, (O3.a 2), ?_⟩
   obtain ⟨⟨h0_48, h1_49⟩, H⟩ := H
   obtain ⟨a46, ha47, hat45⟩ := Row.at (R0_2.ext hB) h0_48 h1_49
   refine ⟨h0_48, h1_49, a46, ha47, _, (hat45 0 _ rfl), ?_⟩
   refine brc H (fun h H => ?_) fun h H => ?_
   ·obtain ⟨hc50, H⟩ := H
    refine ⟨hc50, ?_⟩
    obtain ⟨m51, hm52, hJ53⟩ := H
    exact ⟨m51, hm52, _, _, rfl, hJ53, hB, O3⟩
   obtain ⟨m54, hm55, hJ56⟩ := H
   exact ⟨m54, hm55, i28, _, rfl, hJ56, hB, O3⟩
  obtain ⟨m58, hm59, hJ60⟩ := H
  exact ⟨m58, hm59, i28, _, rfl, hJ60, hB, O3⟩
 cases hr.trans H.symm
 exact ⟨rfl, hB⟩
def qbd.vc (A0 : OA) (n0 c0 : Nat) (x1_0 : Int) (A1_1 : OA) (n1_1 c1_1 : Nat) (A1_2 : OA) (n1_2 c1_2 : Nat) (w : World) (K : VK) : Prop :=
  newK w (.cells #[(iv x1_0), (sv A1_1 n1_1 c1_1), (sv A1_2 n1_2 c1_2)] 52) fun g21 w22 => ldS w22 (((bx g21).add 1).add 0) fun A23 n24 c25 => ldS w22 (((bx g21).add 1).add 0) fun A26 n27 c28 => (idx (wrap .i64 (((n27 : Nat) : Int) - 1)) n24 A23 fun a29 => ldI w22 ((a29.add (((wrap .i64 (((n27 : Nat) : Int) - 1)).toNat) * 3)).add 0) fun n30 => ldI w22 ((a29.add (((wrap .i64 (((n27 : Nat) : Int) - 1)).toNat) * 3)).add 1) fun n31 => ldI w22 ((a29.add (((wrap .i64 (((n27 : Nat) : Int) - 1)).toNat) * 3)).add 2) fun n32 => newK w22 (.cells #[(iv 0), (iv 0), (iv 0)] 91) fun g33 w34 => qa7 (bx g33) [(iv n30), (iv n31), (iv n32)] 0 w34 fun w35 => ldI w35 (((bx g33).add 0).add 0) fun n37 => (idx n37 n0 A0 fun a38 => ldI w35 (((a38.add ((n37.toNat) * 4)).add 0).add 0) fun n39 => qa1 (n39 != 10) (K (.bool false) w35.drew) (ldI w35 (((bx g33).add 0).add 0) fun n40 => (idx n40 n0 A0 fun a41 => ldI w35 (((a41.add ((n40.toNat) * 4)).add 2).add 0) fun n42 => ldI w35 (((bx g33).add 0).add 0) fun n43 => qa1 (n42 == (wrap .i64 (n43 + 1))) (K (.bool false) w35.drew) ((∃ M44 : Nat → Prop, ∃ (n45 : Int), (¬ M44 ((bx g21)).block ∧ w35.drew.cell? ((bx g21).add 0) = some (iv n45)) ∧ ∃ (A46 : OA) (n47 c48 : Nat), (¬ M44 ((bx g21)).block ∧ w35.drew.cell? ((bx g21).add 1) = some (sv A46 n47 c48)) ∧ ∃ (A49 : OA) (n50 c51 : Nat), (¬ M44 ((bx g21)).block ∧ w35.drew.cell? ((bx g21).add 2) = some (sv A49 n50 c51)) ∧ ∃ (n52 : Int), (¬ M44 (((bx g33).add 0)).block ∧ w35.drew.cell? (((bx g33).add 0).add 0) = some (iv n52)) ∧ (idx n52 n0 A0 fun a53 => ∃ (n54 : Int), (¬ M44 (((a53.add ((n52.toNat) * 4)).add 1)).block ∧ w35.drew.cell? (((a53.add ((n52.toNat) * 4)).add 1).add 0) = some (iv n54)) ∧ Cl 205 #[(.agg #[(iv n45), (sv A46 n47 c48), (sv A49 n50 c51)]), (iv n54)] w35.drew.drew fun v55 w56 => (∃ (n57 : Int), v55 = (iv n57) ∧ qac M44 w35.drew w56 ∧ qa1 (n57 != 0) (ldI w56 (((bx g33).add 2).add 0) fun n58 => K (.bool (n57 != n58)) w56) (K (.bool false) w56)))))))))

def qbd.ann : Ann := (.seq .l (.seq .l (.seq (.seq .l (.two (.seq .l .l) .l)) (.seq .l (.seq .l .l)))))

theorem qbd.con {xs0 : List D.Ins} {A0 A1_1 A1_2 : OA} {c0 c1_1 c1_2 : Nat} {s1 : D.Warp} {r : Bool} {w : World} (hp : M.qeE xs0 s1) (hr : r = M.qbd xs0 s1) (R0 : Row el84 w A0 xs0) (hc0 : xs0.length ≤ c0) (R1_1 : Row el91 w A1_1 s1.Frames) (hc1_1 : s1.Frames.length ≤ c1_1) (R1_2 : Row el3 w A1_2 s1.Regs) (hc1_2 : s1.Regs.length ≤ c1_2) :
    Cl 169 #[(sv A0 xs0.length c0), (.agg (wC A1_1 c1_1 A1_2 c1_2 s1))] w (fun v_ w_ => v_ = (.bool r) ∧ Ext w w_) := by
 have H := wp.qbd.math xs0 s1 hp
 refine begK mixed Tryz.f169 ann (vc A0 xs0.length c0 s1.Number A1_1 s1.Frames.length c1_1 A1_2 s1.Regs.length c1_2) ?_
 unfold vc
 unfold wp.qbd at H
 refine qax (fun g4_ w21 L4 O4 e22 => ?_)
 have hB := qa5 (Ext.refl w) e22
 refine ⟨_, _, _, (O4.a 1), _, _, _, (O4.a 1), ?_⟩
 obtain ⟨⟨h0_26, h1_27⟩, H⟩ := H
 obtain ⟨a24, ha25, hat23⟩ := Row.at (R1_1.ext hB) h0_26 h1_27
 refine ⟨h0_26, h1_27, a24, ha25, _, (hat23 0 _ rfl), _, (hat23 1 _ rfl), _, (hat23 2 _ rfl), ?_⟩
 refine qiV #[(iv ((rd s1.Frames (wrap .i64 ((s1.Frames.length : Int) - 1))).Pc)), (iv ((rd s1.Frames (wrap .i64 ((s1.Frames.length : Int) - 1))).Stop)), (iv ((rd s1.Frames (wrap .i64 ((s1.Frames.length : Int) - 1))).Mask))] (fun g5_ w30 L5 O5 e31 => ?_)
 have O4 := O4.ext e31
 have hB := qa5 hB e31
 refine ⟨_, (O5.a 0), ?_⟩
 obtain ⟨⟨h0_36, h1_37⟩, H⟩ := H
 obtain ⟨a34, ha35, hat33⟩ := Row.at (R0.ext hB) h0_36 h1_37
 refine ⟨h0_36, h1_37, a34, ha35, _, (hat33 0 _ rfl), ?_⟩
 refine brc H (fun h H => ?_) fun h H => ?_
 ·have hB := qa5 hB (Ext.drew _)
  cases hr.trans H.symm
  exact ⟨rfl, hB⟩
 refine ⟨_, (O5.a 0), ?_⟩
 obtain ⟨⟨h0_41, h1_42⟩, H⟩ := H
 obtain ⟨a39, ha40, hat38⟩ := Row.at (R0.ext hB) h0_41 h1_42
 refine ⟨h0_41, h1_42, a39, ha40, _, (hat38 2 _ rfl), _, (O5.a 0), ?_⟩
 have O4 := O4.ext (Ext.drew _)
 have O5 := O5.ext (Ext.drew _)
 have hB := qa5 hB (Ext.drew _)
 refine brc H (fun h H => ?_) fun h H => ?_
 ·cases hr.trans H.symm
  exact ⟨rfl, hB⟩
 refine ⟨(fun _ => False), _, noM (O4.a 0), _, _, _, noM (O4.a 1), _, _, _, noM (O4.a 2), _, noM (O5.a 0), ?_⟩
 obtain ⟨⟨h0_47, h1_48⟩, H⟩ := H
 obtain ⟨a45, ha46, hat44⟩ := Row.at (R0.ext hB) h0_47 h1_48
 refine ⟨h0_47, h1_48, a45, ha46, _, ⟨(fun h_ => h_), (hat44 1 _ rfl)⟩, ?_⟩
 have O5 := O5.ext (Ext.drew _)
 have hB := qa5 hB (Ext.drew _)
 have hS43 := (Chg.refl (fun _ => False) w30.drew).then (Ext.drew _)
 obtain ⟨hp51, H⟩ := H
 obtain ⟨r49, hr50, H⟩ := qad H
 refine (qaO.con hp51 hr50 (R1_1.ext hB) hc1_1 (R1_2.ext hB) hc1_2).mono ?_
 rintro _ w52 ⟨rfl, e53⟩
 have O5 := O5.ext e53
 have hB := qa5 hB e53
 have hS43 := hS43.then e53
 refine ⟨r49, rfl, qa2 hS43, ?_⟩
 refine brc H (fun h H => ?_) fun h H => ?_
 ·refine ⟨_, (O5.a 2), ?_⟩
  cases hr.trans H.symm
  exact ⟨rfl, hB⟩
 cases hr.trans H.symm
 exact ⟨rfl, hB⟩
def qaJ.vc (A0 : OA) (n0 c0 : Nat) (x1_0 : Int) (A1_1 : OA) (n1_1 c1_1 : Nat) (A1_2 : OA) (n1_2 c1_2 : Nat) (w : World) (K : VK) : Prop :=
  newK w (.cells #[(iv x1_0), (sv A1_1 n1_1 c1_1), (sv A1_2 n1_2 c1_2)] 52) fun g21 w22 => ldS w22 (((bx g21).add 1).add 0) fun A24 n25 c26 => qa1 (((n25 : Nat) : Int) == 0) (K (.bool false) w22) (ldS w22 (((bx g21).add 1).add 0) fun A27 n28 c29 => ldS w22 (((bx g21).add 1).add 0) fun A30 n31 c32 => (idx (wrap .i64 (((n31 : Nat) : Int) - 1)) n28 A27 fun a33 => ldI w22 (((a33.add (((wrap .i64 (((n31 : Nat) : Int) - 1)).toNat) * 3)).add 0).add 0) fun n34 => (idx n34 n0 A0 fun a35 => ldI w22 ((a35.add ((n34.toNat) * 4)).add 0) fun n36 => ldI w22 ((a35.add ((n34.toNat) * 4)).add 1) fun n37 => ldI w22 ((a35.add ((n34.toNat) * 4)).add 2) fun n38 => ldI w22 ((a35.add ((n34.toNat) * 4)).add 3) fun n39 => Cl 124 #[(.agg #[(iv n36), (iv n37), (iv n38), (iv n39)])] w22 fun v40 w41 => (∃ (b42 : Bool), v40 = (.bool b42) ∧ qa1 (!b42) (K (.bool false) w41) (ldI w41 ((bx g21).add 0) fun n43 => ldS w41 ((bx g21).add 1) fun A44 n45 c46 => ldS w41 ((bx g21).add 2) fun A47 n48 c49 => Cl 169 #[(sv A0 n0 c0), (.agg #[(iv n43), (sv A44 n45 c46), (sv A47 n48 c49)])] w41 fun v50 w51 => (∃ (b52 : Bool), v50 = (.bool b52) ∧ qa1 (!b52) (K (.bool true) w51) (ldS w51 (((bx g21).add 1).add 0) fun A53 n54 c55 => K (.bool (decide (((n54 : Nat) : Int) ≤ 22))) w51)))))))

def qaJ.ann : Ann := (.seq .l (.seq (.seq .l (.two (.seq .l .l) .l)) (.seq .l .l)))

theorem qaJ.con {xs0 : List D.Ins} {A0 A1_1 A1_2 : OA} {c0 c1_1 c1_2 : Nat} {s1 : D.Warp} {r : Bool} {w : World} (hp : M.qfY xs0 s1) (hr : r = M.qaJ xs0 s1) (R0 : Row el84 w A0 xs0) (hc0 : xs0.length ≤ c0) (R1_1 : Row el91 w A1_1 s1.Frames) (hc1_1 : s1.Frames.length ≤ c1_1) (R1_2 : Row el3 w A1_2 s1.Regs) (hc1_2 : s1.Regs.length ≤ c1_2) :
    Cl 125 #[(sv A0 xs0.length c0), (.agg (wC A1_1 c1_1 A1_2 c1_2 s1))] w (fun v_ w_ => v_ = (.bool r) ∧ Ext w w_) := by
 have H := wp.qaJ.math xs0 s1 hp
 refine begK mixed Tryz.f125 ann (vc A0 xs0.length c0 s1.Number A1_1 s1.Frames.length c1_1 A1_2 s1.Regs.length c1_2) ?_
 unfold vc
 unfold wp.qaJ at H
 refine qax (fun g4_ w21 L4 O4 e22 => ?_)
 have hB := qa5 (Ext.refl w) e22
 refine ⟨_, _, _, (O4.a 1), ?_⟩
 refine brc H (fun h H => ?_) fun h H => ?_
 ·cases hr.trans H.symm
  exact ⟨rfl, hB⟩
 refine ⟨_, _, _, (O4.a 1), _, _, _, (O4.a 1), ?_⟩
 obtain ⟨⟨h0_26, h1_27⟩, H⟩ := H
 obtain ⟨a24, ha25, hat23⟩ := Row.at (R1_1.ext hB) h0_26 h1_27
 refine ⟨h0_26, h1_27, a24, ha25, _, (hat23 0 _ rfl), ?_⟩
 obtain ⟨⟨h0_31, h1_32⟩, H⟩ := H
 obtain ⟨a29, ha30, hat28⟩ := Row.at (R0.ext hB) h0_31 h1_32
 refine ⟨h0_31, h1_32, a29, ha30, _, (hat28 0 _ rfl), _, (hat28 1 _ rfl), _, (hat28 2 _ rfl), _, (hat28 3 _ rfl), ?_⟩
 obtain ⟨r33, hr34, H⟩ := qad H
 refine (qcA.con hr34 ).mono ?_
 rintro _ w36 ⟨rfl, e37⟩
 have O4 := O4.ext e37
 have hB := qa5 hB e37
 refine ⟨r33, rfl, ?_⟩
 refine brc H (fun h H => ?_) fun h H => ?_
 ·cases hr.trans H.symm
  exact ⟨rfl, hB⟩
 refine ⟨_, (O4.a 0), _, _, _, (O4.a 1), _, _, _, (O4.a 2), ?_⟩
 obtain ⟨hp40, H⟩ := H
 obtain ⟨r38, hr39, H⟩ := qad H
 refine (qbd.con hp40 hr39 (R0.ext hB) hc0 (R1_1.ext hB) hc1_1 (R1_2.ext hB) hc1_2).mono ?_
 rintro _ w41 ⟨rfl, e42⟩
 have O4 := O4.ext e42
 have hB := qa5 hB e42
 refine ⟨r38, rfl, ?_⟩
 refine brc H (fun h H => ?_) fun h H => ?_
 ·cases hr.trans H.symm
  exact ⟨rfl, hB⟩
 refine ⟨_, _, _, (O4.a 1), ?_⟩
 cases hr.trans H.symm
 exact ⟨rfl, hB⟩
def qcC.vc (A0_0 : OA) (n0_0 c0_0 : Nat) (A0_1 : OA) (n0_1 c0_1 : Nat) (A0_2 : OA) (n0_2 c0_2 : Nat) (x0_3 x0_4 x1 : Int) (w : World) (K : VK) : Prop :=
  newK w (.cells (vB A0_0 n0_0 c0_0 A0_1 n0_1 c0_1 A0_2 n0_2 c0_2 x0_3 x0_4) 33) fun g21 w22 => ldS w22 (((bx g21).add 1).add 0) fun A23 n24 c25 => (idx x1 n24 A23 fun a26 => ldI w22 ((a26.add ((x1.toNat) * 3)).add 0) fun n27 => ldS w22 ((a26.add ((x1.toNat) * 3)).add 1) fun A28 n29 c30 => ldS w22 ((a26.add ((x1.toNat) * 3)).add 2) fun A31 n32 c33 => newK w22 (.cells #[(iv 0), (sv none 0 0), (sv none 0 0)] 52) fun g34 w35 => qa7 (bx g34) [(iv n27), (sv A28 n29 c30), (sv A31 n32 c33)] 0 w35 fun w36 => ldS w36 (((bx g34).add 1).add 0) fun A38 n39 c40 => qa1 (((n39 : Nat) : Int) == 0) (K (.bool false) w36) (ldI w36 (((bx g21).add 3).add 0) fun n41 => ((0 : Int) ≤ x1 ∧ qa1 ((qdH .i64 (Int.fdiv n41 (2 ^ (min (x1.toNat) (IntKind.bits .i64)))) 1) == 1) (K (.bool false) w36) (ldB w36 (bx g21) fun A42 n43 c44 A45 n46 c47 A48 n49 c50 n51 n52 => Cl 98 #[(.agg (vB A42 n43 c44 A45 n46 c47 A48 n49 c50 n51 n52)), (iv x1)] w36 fun v53 w54 => (∃ (n55 : Int), True ∧ ∃ (n56 : Int), True ∧ ∃ (n57 : Int), True ∧ ∃ (n58 : Int), True ∧ v53 = (.agg #[(iv n55), (iv n56), (iv n57), (iv n58)]) ∧ newK w54 (.cells #[(iv 0), (iv 0), (iv 0), (iv 0)] 84) fun g59 w60 => qa7 (bx g59) [(iv n55), (iv n56), (iv n57), (iv n58)] 0 w60 fun w61 => ldI w61 ((bx g59).add 0) fun n62 => ldI w61 ((bx g59).add 1) fun n63 => ldI w61 ((bx g59).add 2) fun n64 => ldI w61 ((bx g59).add 3) fun n65 => Cl 124 #[(.agg #[(iv n62), (iv n63), (iv n64), (iv n65)])] w61 fun v66 w67 => (∃ (b68 : Bool), v66 = (.bool b68) ∧ qa1 b68 (ldS w67 (((bx g21).add 0).add 0) fun A69 n70 c71 => ldI w67 ((bx g34).add 0) fun n72 => ldS w67 ((bx g34).add 1) fun A73 n74 c75 => ldS w67 ((bx g34).add 2) fun A76 n77 c78 => Cl 125 #[(sv A69 n70 c71), (.agg #[(iv n72), (sv A73 n74 c75), (sv A76 n77 c78)])] w67 fun v79 w80 => (∃ (b81 : Bool), v79 = (.bool b81) ∧ K (.bool b81) w80)) (ldI w67 (((bx g59).add 0).add 0) fun n82 => qa1 (n82 != 16) (K (.bool true) w67) (ldS w67 (((bx g34).add 1).add 0) fun A83 n84 c85 => K (.bool (((n84 : Nat) : Int) == 1)) w67))))))))

def qcC.ann : Ann := (.seq .l (.seq .l (.seq (.seq .l (.two (.seq .l .l) .l)) (.seq .l (.seq (.seq .l (.two (.seq .l .l) .l)) (.seq .l .l))))))

theorem qcC.con {s0 : D.Block} {A0_0 A0_1 A0_2 : OA} {c0_0 c0_1 c0_2 : Nat} {x1 : Int} {r : Bool} {w : World} (hp : M.qgJ s0 x1) (hr : r = M.qcC s0 x1) (R0_0 : Row el84 w A0_0 s0.Code) (hc0_0 : s0.Code.length ≤ c0_0) (R0_1 : RowW 52 el91 el3 w A0_1 s0.Warps) (hc0_1 : s0.Warps.length ≤ c0_1) (R0_2 : Row el3 w A0_2 s0.Memory) (hc0_2 : s0.Memory.length ≤ c0_2) :
    Cl 64 #[(.agg (bC A0_0 c0_0 A0_1 c0_1 A0_2 c0_2 s0)), (iv x1)] w (fun v_ w_ => v_ = (.bool r) ∧ Ext w w_) := by
 have H := wp.qcC.math s0 x1 hp
 refine begK mixed Tryz.f64 ann (vc A0_0 s0.Code.length c0_0 A0_1 s0.Warps.length c0_1 A0_2 s0.Memory.length c0_2 s0.Waiting s0.Phase x1) ?_
 unfold vc
 unfold wp.qcC at H
 refine qax (fun g4_ w21 L4 O4 e22 => ?_)
 have hB := qa5 (Ext.refl w) e22
 refine ⟨_, _, _, (O4.a 1), ?_⟩
 obtain ⟨⟨h0_26, h1_27⟩, H⟩ := H
 obtain ⟨a24, ha25, A31, c32, A33, c34, f28, f29, f30, R35, hle37, R36, hle38⟩ := RowW.at R0_1 h0_26 h1_27
 refine ⟨h0_26, h1_27, a24, ha25, _, (Ext.cell hB f28), _, _, _, (Ext.cell hB f29), _, _, _, (Ext.cell hB f30), ?_⟩
 refine qax (fun g7_ w39 L7 P7 e40 => ?_)
 have N4_7 := O4.ne L7
 have O4 := O4.ext e40
 have O7 := P7
 have L7 := Nat.le_trans hB.size L7
 have hB := qa5 hB e40
 refine qbI O7 (o := 0) (cs' := #[(iv ((rd s0.Warps x1).Number)), (sv A31 ((rd s0.Warps x1).Frames.length) c32), (sv A33 ((rd s0.Warps x1).Regs.length) c34)]) rfl rfl (Nat.le_of_ble_eq_true rfl) rfl (fun w41 O7 e42 => ?_)
 have O4_ := O4.chg e42 N4_7
 have O4 := O4_
 have hB := echg hB e42 L7
 refine ⟨_, _, _, (O7.a 1), ?_⟩
 refine brc H (fun h H => ?_) fun h H => ?_
 ·cases hr.trans H.symm
  exact ⟨rfl, hB⟩
 refine ⟨_, (O4.a 3), ?_⟩
 obtain ⟨hc43, H⟩ := H
 refine ⟨hc43, ?_⟩
 refine brc H (fun h H => ?_) fun h H => ?_
 ·cases hr.trans H.symm
  exact ⟨rfl, hB⟩
 refine ⟨_, _, _, (O4.a 0), _, _, _, (O4.a 1), _, _, _, (O4.a 2), _, (O4.a 3), _, (O4.a 4), ?_⟩
 obtain ⟨hp46, H⟩ := H
 obtain ⟨r44, hr45, H⟩ := qad H
 refine (qch.con hp46 hr45 (R0_0.ext hB) hc0_0 (R0_1.ext hB) hc0_1 (R0_2.ext hB) hc0_2).mono ?_
 rintro _ w47 ⟨rfl, e48⟩
 refine ⟨r44.Op, trivial, r44.A, trivial, r44.B, trivial, r44.C, trivial, rfl, ?_⟩
 refine qiV (iC r44) (fun g8_ w51 L8 O8 e52 => ?_)
 refine ⟨_, (O8.a 0), _, (O8.a 1), _, (O8.a 2), _, (O8.a 3), ?_⟩
 obtain ⟨r53, hr54, H⟩ := qad H
 refine (qcA.con hr54 ).mono ?_
 rintro _ w56 ⟨rfl, e57⟩
 have O4 := ((O4.ext e48).ext e52).ext e57
 have O7 := ((O7.ext e48).ext e52).ext e57
 have O8 := O8.ext e57
 have hB := qa5 (qa5 (qa5 hB e48) e52) e57
 refine ⟨r53, rfl, ?_⟩
 refine brc H (fun h H => ?_) fun h H => ?_
 ·refine ⟨_, _, _, (O4.a 0), _, (O7.a 0), _, _, _, (O7.a 1), _, _, _, (O7.a 2), ?_⟩
  obtain ⟨hp60, H⟩ := H
  obtain ⟨r58, hr59, H⟩ := qad H
  refine (cllA (qaJ.con hp60 hr59 (R0_0.ext hB) hc0_0 (R35.ext hB) hle37 (R36.ext hB) hle38)).mono ?_
  rintro _ w61 ⟨rfl, e62⟩
  have hB := qa5 hB e62
  refine ⟨r58, rfl, ?_⟩
  cases hr.trans H.symm
  exact ⟨rfl, hB⟩
 refine ⟨_, (O8.a 0), ?_⟩
 refine brc H (fun h H => ?_) fun h H => ?_
 ·cases hr.trans H.symm
  exact ⟨rfl, hB⟩
 refine ⟨_, _, _, (O7.a 1), ?_⟩
 cases hr.trans H.symm
 exact ⟨rfl, hB⟩
def qbh.vc (x0_0 : Int) (A0_1 : OA) (n0_1 c0_1 : Nat) (A0_2 : OA) (n0_2 c0_2 : Nat) (w : World) (K : VK) : Prop :=
  newK w (.cells #[(iv x0_0), (sv A0_1 n0_1 c0_1), (sv A0_2 n0_2 c0_2)] 52) fun g21 w22 => ldS w22 (((bx g21).add 1).add 0) fun A23 n24 c25 => qa1 (((n24 : Nat) : Int) == 0) (K (iv 0) w22) (ldS w22 (((bx g21).add 1).add 0) fun A26 n27 c28 => ldS w22 (((bx g21).add 1).add 0) fun A29 n30 c31 => (idx (wrap .i64 (((n30 : Nat) : Int) - 1)) n27 A26 fun a32 => ldI w22 (((a32.add (((wrap .i64 (((n30 : Nat) : Int) - 1)).toNat) * 3)).add 2).add 0) fun n33 => K (iv n33) w22))

def qbh.ann : Ann := (.seq .l (.seq (.seq .l (.two (.seq .l .l) .l)) (.seq .l .l)))

theorem qbh.con {s0 : D.Warp} {A0_1 A0_2 : OA} {c0_1 c0_2 : Nat} {r : Int} {w : World} (hp : M.qdi s0) (hr : r = M.qbh s0) (R0_1 : Row el91 w A0_1 s0.Frames) (hc0_1 : s0.Frames.length ≤ c0_1) (R0_2 : Row el3 w A0_2 s0.Regs) (hc0_2 : s0.Regs.length ≤ c0_2) :
    Cl 106 #[(.agg (wC A0_1 c0_1 A0_2 c0_2 s0))] w (fun v_ w_ => v_ = (iv r) ∧ Ext w w_) := by
 have H := wp.qbh.math s0 hp
 refine begK mixed Tryz.f106 ann (vc s0.Number A0_1 s0.Frames.length c0_1 A0_2 s0.Regs.length c0_2) ?_
 unfold vc
 unfold wp.qbh at H
 refine qax (fun g3_ w21 L3 O3 e22 => ?_)
 have hB := qa5 (Ext.refl w) e22
 refine ⟨_, _, _, (O3.a 1), ?_⟩
 refine brc H (fun h H => ?_) fun h H => ?_
 ·cases hr.trans H.symm
  exact ⟨rfl, hB⟩
 refine ⟨_, _, _, (O3.a 1), _, _, _, (O3.a 1), ?_⟩
 obtain ⟨⟨h0_26, h1_27⟩, H⟩ := H
 obtain ⟨a24, ha25, hat23⟩ := Row.at (R0_1.ext hB) h0_26 h1_27
 refine ⟨h0_26, h1_27, a24, ha25, _, (hat23 2 _ rfl), ?_⟩
 cases hr.trans H.symm
 exact ⟨rfl, hB⟩
def qaN.vc (x0_0 : Int) (A0_1 : OA) (n0_1 c0_1 : Nat) (A0_2 : OA) (n0_2 c0_2 : Nat) (x1 : Int) (w : World) (K : VK) : Prop :=
  newK w (.cells #[(iv x0_0), (sv A0_1 n0_1 c0_1), (sv A0_2 n0_2 c0_2)] 52) fun g21 w22 => ldI w22 ((bx g21).add 0) fun n23 => ldS w22 ((bx g21).add 1) fun A24 n25 c26 => ldS w22 ((bx g21).add 2) fun A27 n28 c29 => Cl 106 #[(.agg #[(iv n23), (sv A24 n25 c26), (sv A27 n28 c29)])] w22 fun v30 w31 => (∃ (n32 : Int), v30 = (iv n32) ∧ Cl 105 #[(iv n32)] w31 fun v33 w34 => (∃ (A35 : OA) (n36 c37 : Nat), v33 = (sv A35 n36 c37) ∧ qdA (σ := Int × Int × Unit) (fun z38 w39 next40 => qa1 (decide (z38.2.1 < ((n36 : Nat) : Int))) ((idx z38.2.1 n36 A35 fun a41 => ldI w39 ((a41.add ((z38.2.1.toNat) * 1)).add 0) fun n42 => ldI w39 ((bx g21).add 0) fun n43 => ldS w39 ((bx g21).add 1) fun A44 n45 c46 => ldS w39 ((bx g21).add 2) fun A47 n48 c49 => Cl 107 #[(.agg #[(iv n43), (sv A44 n45 c46), (sv A47 n48 c49)]), (iv n42)] w39 fun v50 w51 => (∃ (A52 : OA) (n53 c54 : Nat), v50 = (sv A52 n53 c54) ∧ (idx x1 n53 A52 fun a55 => ldI w51 ((a55.add ((x1.toNat) * 1)).add 0) fun n56 => qa1 (n56 == 0) (((0 : Int) ≤ n42 ∧ next40 ((qgS .i64 z38.1 (wrap .i64 (1 * 2 ^ (min (n42.toNat) (IntKind.bits .i64))))), (wrap .i64 (z38.2.1 + 1)), ()) w51)) (next40 (z38.1, (wrap .i64 (z38.2.1 + 1)), ()) w51))))) (K (iv z38.1) w39)) (0, 0, ()) w34))

def qaN.ann : Ann := (.seq .l (.seq .l (.seq (.seq .l (.one (.loop [(5, .int .i64), (12, .int .i64)] (.seq .l (.seq (.two .l .l) (.seq (.one (.seq .l (.seq .l (.two .l .l)))) .l)))))) (.seq .l .l))))

theorem qaN.con {s0 : D.Warp} {A0_1 A0_2 : OA} {c0_1 c0_2 : Nat} {x1 r : Int} {w : World} (hp : M.qd8 s0 x1) (hr : r = M.qaN s0 x1) (R0_1 : Row el91 w A0_1 s0.Frames) (hc0_1 : s0.Frames.length ≤ c0_1) (R0_2 : Row el3 w A0_2 s0.Regs) (hc0_2 : s0.Regs.length ≤ c0_2) :
    Cl 166 #[(.agg (wC A0_1 c0_1 A0_2 c0_2 s0)), (iv x1)] w (fun v_ w_ => v_ = (iv r) ∧ Ext w w_) := by
 have H := wp.qaN.math s0 x1 hp
 refine begK mixed Tryz.f166 ann (vc s0.Number A0_1 s0.Frames.length c0_1 A0_2 s0.Regs.length c0_2 x1) ?_
 unfold vc
 unfold wp.qaN at H
 refine qax (fun g3_ w21 L3 O3 e22 => ?_)
 have hB := qa5 (Ext.refl w) e22
 refine ⟨_, (O3.a 0), _, _, _, (O3.a 1), _, _, _, (O3.a 2), ?_⟩
 obtain ⟨hp25, H⟩ := H
 obtain ⟨r23, hr24, H⟩ := qad H
 refine (qbh.con hp25 hr24 (R0_1.ext hB) hc0_1 (R0_2.ext hB) hc0_2).mono ?_
 rintro _ w26 ⟨rfl, e27⟩
 have hB := qa5 hB e27
 refine ⟨r23, rfl, ?_⟩
 obtain ⟨r28, hr29, H⟩ := qad H
 refine (qcj.con hr29 ).mono ?_
 rintro _ w31 ⟨A33, c34, rfl, P4, e32⟩
 have O3 := (O3.ext e27).ext e32
 have O4 := P4.mono hB.size
 have hB := qa5 hB e32
 refine ⟨A33, r28.length, c34, rfl, ?_⟩
 obtain ⟨J38, ⟨m66, hJ65⟩, hS39⟩ := H
 refine ⟨fun m_ z_ w_ => ∃ (i35 i36 : Int), z_ = (i35, i36, ()) ∧ J38 m_ (i35, i36, ()) ∧ Ext w w_ ∧ Blk w_ g3_ 52 (wC A0_1 c0_1 A0_2 c0_2 s0) ∧ Own el3 w_ w.heap.size A33 c34 r28, ⟨m66, 0, 0, rfl, hJ65, hB, O3, O4⟩, ?_⟩
 rintro m37 _ w41 ⟨i35, i36, rfl, hJ67, hB, O3, O4⟩
 have H := hS39 m37 _ hJ67
 clear hS39 hJ67
 try dsimp only at H ⊢
 refine brc H (fun h H => ?_) fun h H => ?_
 ·obtain ⟨⟨h0_45, h1_46⟩, H⟩ := H
  obtain ⟨a43, ha44, hat42⟩ := Row.at O4.row h0_45 h1_46
  refine ⟨h0_45, h1_46, a43, ha44, _, (hat42 0 _ rfl), _, (O3.a 0), _, _, _, (O3.a 1), _, _, _, (O3.a 2), ?_⟩
  obtain ⟨hp47, H⟩ := H
  refine (qbu.con hp47 (R0_1.ext hB) hc0_1 (R0_2.ext hB) hc0_2).mono ?_
  rintro _ w48 ⟨rfl, e49⟩
  have O3 := O3.ext e49
  have O4 := O4.ext e49
  have hB := qa5 hB e49
  have R5_ := (R0_2.take ((wrap .i64 ((wrap .i64 ((rd r28 i36) + 1)) * 4)).toNat)).drop (l := ((wrap .i64 ((rd r28 i36) * 4)).toNat)) (m := c0_2) (by have := hc0_2; simp; omega)
  have le5_ : (List.drop ((wrap .i64 ((rd r28 i36) * 4)).toNat) (List.take ((wrap .i64 ((wrap .i64 ((rd r28 i36) + 1)) * 4)).toNat) s0.Regs)).length ≤ (c0_2 - ((wrap .i64 ((rd r28 i36) * 4)).toNat)) := by have := hc0_2; simp; omega
  refine ⟨(cutA c0_2 ((wrap .i64 ((rd r28 i36) * 4)).toNat) A0_2 1), (List.drop ((wrap .i64 ((rd r28 i36) * 4)).toNat) (List.take ((wrap .i64 ((wrap .i64 ((rd r28 i36) + 1)) * 4)).toNat) s0.Regs)).length, (c0_2 - ((wrap .i64 ((rd r28 i36) * 4)).toNat)), rfl, ?_⟩
  obtain ⟨⟨h0_53, h1_54⟩, H⟩ := H
  obtain ⟨a51, ha52, hat50⟩ := Row.at (R5_.ext hB) h0_53 h1_54
  refine ⟨h0_53, h1_54, a51, ha52, _, (hat50 0 _ rfl), ?_⟩
  refine brc H (fun h H => ?_) fun h H => ?_
  ·obtain ⟨hc55, H⟩ := H
   refine ⟨hc55, ?_⟩
   obtain ⟨m56, hm57, hJ58⟩ := H
   exact ⟨m56, hm57, _, _, rfl, hJ58, hB, O3, O4⟩
  obtain ⟨m59, hm60, hJ61⟩ := H
  exact ⟨m59, hm60, i35, _, rfl, hJ61, hB, O3, O4⟩
 cases hr.trans H.symm
 exact ⟨rfl, hB⟩
def qaV.vc (x0_0 : Int) (A0_1 : OA) (n0_1 c0_1 : Nat) (A0_2 : OA) (n0_2 c0_2 : Nat) (A1 : OA) (n1 c1 : Nat) (w : World) (K : VK) : Prop :=
  newK w (.cells #[(iv x0_0), (sv A0_1 n0_1 c0_1), (sv A0_2 n0_2 c0_2)] 52) fun g21 w22 => ldS w22 (((bx g21).add 1).add 0) fun A23 n24 c25 => ldS w22 (((bx g21).add 1).add 0) fun A26 n27 c28 => (idx (wrap .i64 (((n27 : Nat) : Int) - 1)) n24 A23 fun a29 => ldI w22 (((a29.add (((wrap .i64 (((n27 : Nat) : Int) - 1)).toNat) * 3)).add 0).add 0) fun n30 => (idx n30 n1 A1 fun a32 => ldI w22 (((a32.add ((n30.toNat) * 4)).add 0).add 0) fun n33 => qa1 (n33 != 10) (K (.bool false) w22) ((idx n30 n1 A1 fun a34 => ldI w22 (((a34.add ((n30.toNat) * 4)).add 2).add 0) fun n35 => qa1 (n35 == (wrap .i64 (n30 + 1))) (K (.bool false) w22) ((∃ M36 : Nat → Prop, ldIM M36 w22 (bx g21) 0 fun n37 => ldSM M36 w22 (bx g21) 1 fun A38 n39 c40 => ldSM M36 w22 (bx g21) 2 fun A41 n42 c43 => (idx n30 n1 A1 fun a44 => ldIM M36 w22 ((a44.add ((n30.toNat) * 4)).add 1) 0 fun n45 => Cl 166 #[(.agg #[(iv n37), (sv A38 n39 c40), (sv A41 n42 c43)]), (iv n45)] w22.drew fun v46 w47 => (∃ (n48 : Int), v46 = (iv n48) ∧ qac M36 w22 w47 ∧ qa1 (n48 != 0) (ldI w47 ((bx g21).add 0) fun n49 => ldS w47 ((bx g21).add 1) fun A50 n51 c52 => ldS w47 ((bx g21).add 2) fun A53 n54 c55 => Cl 106 #[(.agg #[(iv n49), (sv A50 n51 c52), (sv A53 n54 c55)])] w47 fun v56 w57 => (∃ (n58 : Int), v56 = (iv n58) ∧ K (.bool (n48 != n58)) w57)) (K (.bool false) w47)))))))))

def qaV.ann : Ann := (.seq .l (.seq .l (.seq (.seq .l (.two (.seq .l .l) .l)) (.seq .l (.seq .l .l)))))

theorem qaV.con {s0 : D.Warp} {A0_1 A0_2 A1 : OA} {c0_1 c0_2 c1 : Nat} {xs1 : List D.Ins} {r : Bool} {w : World} (hp : M.qem s0 xs1) (hr : r = M.qaV s0 xs1) (R0_1 : Row el91 w A0_1 s0.Frames) (hc0_1 : s0.Frames.length ≤ c0_1) (R0_2 : Row el3 w A0_2 s0.Regs) (hc0_2 : s0.Regs.length ≤ c0_2) (R1 : Row el84 w A1 xs1) (hc1 : xs1.length ≤ c1) :
    Cl 122 #[(.agg (wC A0_1 c0_1 A0_2 c0_2 s0)), (sv A1 xs1.length c1)] w (fun v_ w_ => v_ = (.bool r) ∧ Ext w w_) := by
 have H := wp.qaV.math s0 xs1 hp
 refine begK mixed Tryz.f122 ann (vc s0.Number A0_1 s0.Frames.length c0_1 A0_2 s0.Regs.length c0_2 A1 xs1.length c1) ?_
 unfold vc
 unfold wp.qaV at H
 refine qax (fun g4_ w21 L4 O4 e22 => ?_)
 have hB := qa5 (Ext.refl w) e22
 refine ⟨_, _, _, (O4.a 1), _, _, _, (O4.a 1), ?_⟩
 obtain ⟨⟨h0_26, h1_27⟩, H⟩ := H
 obtain ⟨a24, ha25, hat23⟩ := Row.at (R0_1.ext hB) h0_26 h1_27
 refine ⟨h0_26, h1_27, a24, ha25, _, (hat23 0 _ rfl), ?_⟩
 obtain ⟨⟨h0_31, h1_32⟩, H⟩ := H
 obtain ⟨a29, ha30, hat28⟩ := Row.at (R1.ext hB) h0_31 h1_32
 refine ⟨h0_31, h1_32, a29, ha30, _, (hat28 0 _ rfl), ?_⟩
 refine brc H (fun h H => ?_) fun h H => ?_
 ·cases hr.trans H.symm
  exact ⟨rfl, hB⟩
 obtain ⟨⟨h0_36, h1_37⟩, H⟩ := H
 obtain ⟨a34, ha35, hat33⟩ := Row.at (R1.ext hB) h0_36 h1_37
 refine ⟨h0_36, h1_37, a34, ha35, _, (hat33 2 _ rfl), ?_⟩
 refine brc H (fun h H => ?_) fun h H => ?_
 ·cases hr.trans H.symm
  exact ⟨rfl, hB⟩
 refine ⟨(fun _ => False), _, noM (O4.a 0), _, _, _, noM (O4.a 1), _, _, _, noM (O4.a 2), ?_⟩
 obtain ⟨⟨h0_42, h1_43⟩, H⟩ := H
 obtain ⟨a40, ha41, hat39⟩ := Row.at (R1.ext hB) h0_42 h1_43
 refine ⟨h0_42, h1_43, a40, ha41, _, ⟨(fun h_ => h_), (hat39 1 _ rfl)⟩, ?_⟩
 have O4 := O4.ext (Ext.drew _)
 have hB := qa5 hB (Ext.drew _)
 have hS38 := (Chg.refl (fun _ => False) w21).then (Ext.drew _)
 obtain ⟨hp46, H⟩ := H
 obtain ⟨r44, hr45, H⟩ := qad H
 refine (qaN.con hp46 hr45 (R0_1.ext hB) hc0_1 (R0_2.ext hB) hc0_2).mono ?_
 rintro _ w47 ⟨rfl, e48⟩
 have O4 := O4.ext e48
 have hB := qa5 hB e48
 have hS38 := hS38.then e48
 refine ⟨r44, rfl, qa2 hS38, ?_⟩
 refine brc H (fun h H => ?_) fun h H => ?_
 ·refine ⟨_, (O4.a 0), _, _, _, (O4.a 1), _, _, _, (O4.a 2), ?_⟩
  obtain ⟨hp51, H⟩ := H
  obtain ⟨r49, hr50, H⟩ := qad H
  refine (qbh.con hp51 hr50 (R0_1.ext hB) hc0_1 (R0_2.ext hB) hc0_2).mono ?_
  rintro _ w52 ⟨rfl, e53⟩
  have hB := qa5 hB e53
  refine ⟨r49, rfl, ?_⟩
  cases hr.trans H.symm
  exact ⟨rfl, hB⟩
 cases hr.trans H.symm
 exact ⟨rfl, hB⟩
def qaz.vc (A0_0 : OA) (n0_0 c0_0 : Nat) (A0_1 : OA) (n0_1 c0_1 : Nat) (A0_2 : OA) (n0_2 c0_2 : Nat) (x0_3 x0_4 x1 : Int) (w : World) (K : VK) : Prop :=
  newK w (.cells (vB A0_0 n0_0 c0_0 A0_1 n0_1 c0_1 A0_2 n0_2 c0_2 x0_3 x0_4) 33) fun g21 w22 => ldB w22 (bx g21) fun A23 n24 c25 A26 n27 c28 A29 n30 c31 n32 n33 => Cl 68 #[(.agg (vB A23 n24 c25 A26 n27 c28 A29 n30 c31 n32 n33)), (iv x1)] w22 fun v34 w35 => (∃ u36 : Value, (∃ (n37 : Int), True ∧ ∃ (n38 : Int), True ∧ ∃ (n39 : Int), True ∧ ∃ (n40 : Int), True ∧ u36 = (.agg #[(iv n37), (iv n38), (iv n39), (iv n40)]) ∧ ∃ u41 : Value, (∃ (b42 : Bool), u41 = (.bool b42) ∧ v34 = (.tuple #[(.agg #[(iv n37), (iv n38), (iv n39), (iv n40)]), (.bool b42)]) ∧ newK w35 (.cells #[(iv 0), (iv 0), (iv 0), (iv 0)] 84) fun g43 w44 => qa7 (bx g43) [(iv n37), (iv n38), (iv n39), (iv n40)] 0 w44 fun w45 => qfL (σ := Bool × Unit) (fun J46 => qa1 (!b42) (J46 (true, ()) w45) (ldB w45 (bx g21) fun A47 n48 c49 A50 n51 c52 A53 n54 c55 n56 n57 => Cl 65 #[(.agg (vB A47 n48 c49 A50 n51 c52 A53 n54 c55 n56 n57)), (iv x1)] w45 fun v58 w59 => (∃ (b60 : Bool), v58 = (.bool b60) ∧ J46 (b60, ()) w59))) fun z61 w62 => qa1 z61.1 (K (.bool false) w62) (ldI w62 (((bx g43).add 0).add 0) fun n63 => qa1 (n63 == 16) (ldS w62 (((bx g21).add 1).add 0) fun A64 n65 c66 => (idx x1 n65 A64 fun a67 => ldS w62 (((a67.add ((x1.toNat) * 3)).add 1).add 0) fun A68 n69 c70 => K (.bool (((n69 : Nat) : Int) == 1)) w62)) (ldI w62 ((bx g43).add 0) fun n71 => ldI w62 ((bx g43).add 1) fun n72 => ldI w62 ((bx g43).add 2) fun n73 => ldI w62 ((bx g43).add 3) fun n74 => Cl 121 #[(.agg #[(iv n71), (iv n72), (iv n73), (iv n74)])] w62 fun v75 w76 => (∃ (b77 : Bool), v75 = (.bool b77) ∧ qa1 b77 ((∃ M78 : Nat → Prop, ldSM M78 w76 ((bx g21).add 1) 0 fun A79 n80 c81 => (idx x1 n80 A79 fun a82 => ldIM M78 w76 (a82.add ((x1.toNat) * 3)) 0 fun n83 => ldSM M78 w76 (a82.add ((x1.toNat) * 3)) 1 fun A84 n85 c86 => ldSM M78 w76 (a82.add ((x1.toNat) * 3)) 2 fun A87 n88 c89 => ldSM M78 w76 ((bx g21).add 0) 0 fun A90 n91 c92 => Cl 122 #[(.agg #[(iv n83), (sv A84 n85 c86), (sv A87 n88 c89)]), (sv A90 n91 c92)] w76.drew fun v93 w94 => (∃ (b95 : Bool), v93 = (.bool b95) ∧ qac M78 w76 w94 ∧ qa1 (!b95) (K (.bool true) w94) (ldSM M78 w76 ((bx g21).add 1) 0 fun A96 n97 c98 => (idx x1 n97 A96 fun a99 => ldSM M78 w76 ((a99.add ((x1.toNat) * 3)).add 1) 0 fun A100 n101 c102 => K (.bool (decide ((wrap .i64 (((n101 : Nat) : Int) + 2)) ≤ 24))) w94)))))) (K (.bool true) w76)))))))

def qaz.ann : Ann := (.seq .l (.seq .l (.seq (.one (.cut [(13, .bool)] .l (.two (.seq .l .l) (.seq .l (.two (.seq .l .l) (.seq .l (.two (.seq .l .l) .l))))))) (.seq .l .l))))

theorem qaz.con {s0 : D.Block} {A0_0 A0_1 A0_2 : OA} {c0_0 c0_1 c0_2 : Nat} {x1 : Int} {r : Bool} {w : World} (hp : M.qdy s0 x1) (hr : r = M.qaz s0 x1) (R0_0 : Row el84 w A0_0 s0.Code) (hc0_0 : s0.Code.length ≤ c0_0) (R0_1 : RowW 52 el91 el3 w A0_1 s0.Warps) (hc0_1 : s0.Warps.length ≤ c0_1) (R0_2 : Row el3 w A0_2 s0.Memory) (hc0_2 : s0.Memory.length ≤ c0_2) :
    Cl 61 #[(.agg (bC A0_0 c0_0 A0_1 c0_1 A0_2 c0_2 s0)), (iv x1)] w (fun v_ w_ => v_ = (.bool r) ∧ Ext w w_) := by
 have H := wp.qaz.math s0 x1 hp
 refine begK mixed Tryz.f61 ann (vc A0_0 s0.Code.length c0_0 A0_1 s0.Warps.length c0_1 A0_2 s0.Memory.length c0_2 s0.Waiting s0.Phase x1) ?_
 unfold vc
 unfold wp.qaz at H
 refine qax (fun g4_ w21 L4 O4 e22 => ?_)
 have hB := qa5 (Ext.refl w) e22
 refine ⟨_, _, _, (O4.a 0), _, _, _, (O4.a 1), _, _, _, (O4.a 2), _, (O4.a 3), _, (O4.a 4), ?_⟩
 obtain ⟨hp25, H⟩ := H
 obtain ⟨r23, hr24, H⟩ := qad H
 refine (qaB.con hp25 hr24 (R0_0.ext hB) hc0_0 (R0_1.ext hB) hc0_1 (R0_2.ext hB) hc0_2).mono ?_
 rintro _ w26 ⟨rfl, e27⟩
 refine ⟨(.agg (iC r23.1)), r23.1.Op, trivial, r23.1.A, trivial, r23.1.B, trivial, r23.1.C, trivial, rfl, (.bool r23.2), r23.2, rfl, rfl, ?_⟩
 refine qiV (iC r23.1) (fun g5_ w30 L5 O5 e31 => ?_)
 have O4 := (O4.ext e27).ext e31
 have hB := qa5 (qa5 hB e27) e31
 obtain ⟨K127, hKK127, H⟩ := qcR H
 refine ⟨fun z_ w_ => ∃ (b32 : Bool), z_ = (b32, ()) ∧ K127 (b32, ()) ∧ Ext w w_ ∧ Blk w_ g4_ 33 (bC A0_0 c0_0 A0_1 c0_1 A0_2 c0_2 s0) ∧ Blk w_ g5_ 84 (iC r23.1), ?_, ?_⟩
 ·refine brc H (fun h H => ?_) fun h H => ?_
  ·exact ⟨true, rfl, H, hB, O4, O5⟩
  refine ⟨_, _, _, (O4.a 0), _, _, _, (O4.a 1), _, _, _, (O4.a 2), _, (O4.a 3), _, (O4.a 4), ?_⟩
  obtain ⟨hp38, H⟩ := H
  obtain ⟨r36, hr37, H⟩ := qad H
  refine (qbB.con hp38 hr37 (R0_0.ext hB) hc0_0 (R0_1.ext hB) hc0_1 (R0_2.ext hB) hc0_2).mono ?_
  rintro _ w39 ⟨rfl, e40⟩
  have O4 := O4.ext e40
  have O5 := O5.ext e40
  have hB := qa5 hB e40
  refine ⟨r36, rfl, ?_⟩
  exact ⟨r36, rfl, H, hB, O4, O5⟩
 rintro _ w34 ⟨b32, rfl, H, hB, O4, O5⟩
 have H := hKK127 _ H
 try dsimp only at H ⊢
 refine brc H (fun h H => ?_) fun h H => ?_
 ·cases hr.trans H.symm
  exact ⟨rfl, hB⟩
 refine ⟨_, (O5.a 0), ?_⟩
 refine brc H (fun h H => ?_) fun h H => ?_
 ·refine ⟨_, _, _, (O4.a 1), ?_⟩
  obtain ⟨⟨h0_45, h1_46⟩, H⟩ := H
  obtain ⟨a43, ha44, A50, c51, A52, c53, f47, f48, f49, R54, hle56, R55, hle57⟩ := RowW.at R0_1 h0_45 h1_46
  refine ⟨h0_45, h1_46, a43, ha44, _, _, _, (Ext.cell hB f48), ?_⟩
  cases hr.trans H.symm
  exact ⟨rfl, hB⟩
 refine ⟨_, (O5.a 0), _, (O5.a 1), _, (O5.a 2), _, (O5.a 3), ?_⟩
 obtain ⟨r58, hr59, H⟩ := qad H
 refine (qcz.con hr59 ).mono ?_
 rintro _ w61 ⟨rfl, e62⟩
 have O4 := O4.ext e62
 have hB := qa5 hB e62
 refine ⟨r58, rfl, ?_⟩
 refine brc H (fun h H => ?_) fun h H => ?_
 ·refine ⟨(fun _ => False), ?_⟩
  have hBz := hB
  have Z4 := O4
  refine ⟨_, _, _, noM (O4.a 1), ?_⟩
  obtain ⟨⟨h0_88, h1_89⟩, H⟩ := H
  obtain ⟨a86, ha87, A93, c94, A95, c96, f90, f91, f92, R97, hle99, R98, hle100⟩ := RowW.at R0_1 h0_88 h1_89
  refine ⟨h0_88, h1_89, a86, ha87, _, ⟨(fun h_ => h_), (Ext.cell hB f90)⟩, _, _, _, ⟨(fun h_ => h_), (Ext.cell hB f91)⟩, _, _, _, ⟨(fun h_ => h_), (Ext.cell hB f92)⟩, _, _, _, noM (O4.a 0), ?_⟩
  have hB := qa5 hB (Ext.drew _)
  have hS63 := (Chg.refl (fun _ => False) w61).then (Ext.drew _)
  obtain ⟨hp103, H⟩ := H
  obtain ⟨r101, hr102, H⟩ := qad H
  refine (cllA (qaV.con hp103 hr102 (R97.ext hB) hle99 (R98.ext hB) hle100 (R0_0.ext hB) hc0_0)).mono ?_
  rintro _ w104 ⟨rfl, e105⟩
  have hB := qa5 hB e105
  have hS63 := hS63.then e105
  refine ⟨r101, rfl, qa2 hS63, ?_⟩
  refine brc H (fun h H => ?_) fun h H => ?_
  ·cases hr.trans H.symm
   exact ⟨rfl, hB⟩
  refine ⟨_, _, _, ⟨(fun h_ => h_), (Z4.at 1 rfl rfl)⟩, ?_⟩
  obtain ⟨⟨h0_109, h1_110⟩, H⟩ := H
  obtain ⟨a107, ha108, A114, c115, A116, c117, f111, f112, f113, R118, hle120, R119, hle121⟩ := RowW.at R0_1 h0_109 h1_110
  refine ⟨h0_109, h1_110, a107, ha108, _, _, _, ⟨(fun h_ => h_), (Ext.cell hBz f112)⟩, ?_⟩
  cases hr.trans H.symm
  exact ⟨rfl, hB⟩
 cases hr.trans H.symm
 exact ⟨rfl, hB⟩
def qd3.vc (A0_0 : OA) (n0_0 c0_0 : Nat) (A0_1 : OA) (n0_1 c0_1 : Nat) (A0_2 : OA) (n0_2 c0_2 : Nat) (x0_3 x0_4 x1 : Int) (w : World) (K : VK) : Prop :=
  newK w (.cells (vB A0_0 n0_0 c0_0 A0_1 n0_1 c0_1 A0_2 n0_2 c0_2 x0_3 x0_4) 33) fun g21 w22 => ldB w22 (bx g21) fun A23 n24 c25 A26 n27 c28 A29 n30 c31 n32 n33 => Cl 62 #[(.agg (vB A23 n24 c25 A26 n27 c28 A29 n30 c31 n32 n33)), (iv x1)] w22 fun v34 w35 => (∃ (b36 : Bool), v34 = (.bool b36) ∧ qa1 b36 (ldB w35 (bx g21) fun A37 n38 c39 A40 n41 c42 A43 n44 c45 n46 n47 => Cl 61 #[(.agg (vB A37 n38 c39 A40 n41 c42 A43 n44 c45 n46 n47)), (iv x1)] w35 fun v48 w49 => (∃ (b50 : Bool), v48 = (.bool b50) ∧ K (.bool b50) w49)) (K (.bool false) w35))

def qd3.ann : Ann := (.seq .l (.seq .l .l))

theorem qd3.con {s0 : D.Block} {A0_0 A0_1 A0_2 : OA} {c0_0 c0_1 c0_2 : Nat} {x1 : Int} {r : Bool} {w : World} (hp : M.qgw s0 x1) (hr : r = M.qd3 s0 x1) (R0_0 : Row el84 w A0_0 s0.Code) (hc0_0 : s0.Code.length ≤ c0_0) (R0_1 : RowW 52 el91 el3 w A0_1 s0.Warps) (hc0_1 : s0.Warps.length ≤ c0_1) (R0_2 : Row el3 w A0_2 s0.Memory) (hc0_2 : s0.Memory.length ≤ c0_2) :
    Cl 21 #[(.agg (bC A0_0 c0_0 A0_1 c0_1 A0_2 c0_2 s0)), (iv x1)] w (fun v_ w_ => v_ = (.bool r) ∧ Ext w w_) := by
 have H := wp.qd3.math s0 x1 hp
 refine begK mixed Tryz.f21 ann (vc A0_0 s0.Code.length c0_0 A0_1 s0.Warps.length c0_1 A0_2 s0.Memory.length c0_2 s0.Waiting s0.Phase x1) ?_
 unfold vc
 unfold wp.qd3 at H
 refine qax (fun g4_ w21 L4 O4 e22 => ?_)
 have hB := qa5 (Ext.refl w) e22
 refine ⟨_, _, _, (O4.a 0), _, _, _, (O4.a 1), _, _, _, (O4.a 2), _, (O4.a 3), _, (O4.a 4), ?_⟩
 obtain ⟨hp25, H⟩ := H
 obtain ⟨r23, hr24, H⟩ := qad H
 refine (qdl.con hp25 hr24 (R0_0.ext hB) hc0_0 (R0_1.ext hB) hc0_1 (R0_2.ext hB) hc0_2).mono ?_
 rintro _ w26 ⟨rfl, e27⟩
 have O4 := O4.ext e27
 have hB := qa5 hB e27
 refine ⟨r23, rfl, ?_⟩
 refine brc H (fun h H => ?_) fun h H => ?_
 ·refine ⟨_, _, _, (O4.a 0), _, _, _, (O4.a 1), _, _, _, (O4.a 2), _, (O4.a 3), _, (O4.a 4), ?_⟩
  obtain ⟨hp30, H⟩ := H
  obtain ⟨r28, hr29, H⟩ := qad H
  refine (qaz.con hp30 hr29 (R0_0.ext hB) hc0_0 (R0_1.ext hB) hc0_1 (R0_2.ext hB) hc0_2).mono ?_
  rintro _ w31 ⟨rfl, e32⟩
  have hB := qa5 hB e32
  refine ⟨r28, rfl, ?_⟩
  cases hr.trans H.symm
  exact ⟨rfl, hB⟩
 cases hr.trans H.symm
 exact ⟨rfl, hB⟩
def qdt.vc (A0_0 : OA) (n0_0 c0_0 : Nat) (A0_1 : OA) (n0_1 c0_1 : Nat) (A0_2 : OA) (n0_2 c0_2 : Nat) (x0_3 x0_4 x1 : Int) (w : World) (K : VK) : Prop :=
  newK w (.cells (vB A0_0 n0_0 c0_0 A0_1 n0_1 c0_1 A0_2 n0_2 c0_2 x0_3 x0_4) 33) fun g21 w22 => ldS w22 (((bx g21).add 1).add 0) fun A23 n24 c25 => ((((n24 : Nat) : Int) : Int) ≠ 0 ∧ qdA (σ := Int × Unit) (fun z26 w27 next28 => qa1 (decide (z26.1 < ((n24 : Nat) : Int))) (((((n24 : Nat) : Int) : Int) ≠ 0 ∧ ldB w27 (bx g21) fun A29 n30 c31 A32 n33 c34 A35 n36 c37 n38 n39 => Cl 64 #[(.agg (vB A29 n30 c31 A32 n33 c34 A35 n36 c37 n38 n39)), (iv (Int.tmod (wrap .i64 ((Int.tmod x1 ((n24 : Nat) : Int)) + z26.1)) ((n24 : Nat) : Int)))] w27 fun v40 w41 => (∃ (b42 : Bool), v40 = (.bool b42) ∧ qa1 b42 (K (iv (Int.tmod (wrap .i64 ((Int.tmod x1 ((n24 : Nat) : Int)) + z26.1)) ((n24 : Nat) : Int))) w41) (next28 ((wrap .i64 (z26.1 + 1)), ()) w41)))) (K (iv (-1)) w27)) (0, ()) w22)

def qdt.ann : Ann := (.seq .l (.seq .l (.seq .l (.seq (.seq .l (.one (.loop [(7, .int .i64)] (.seq (.seq .l (.two .l .l)) (.seq (.one (.seq .l (.seq .l (.two (.seq .l .l) .l)))) .l))))) (.seq .l .l)))))

theorem qdt.con {s0 : D.Block} {A0_0 A0_1 A0_2 : OA} {c0_0 c0_1 c0_2 : Nat} {x1 r : Int} {w : World} (hp : M.qgi s0 x1) (hr : r = M.qdt s0 x1) (R0_0 : Row el84 w A0_0 s0.Code) (hc0_0 : s0.Code.length ≤ c0_0) (R0_1 : RowW 52 el91 el3 w A0_1 s0.Warps) (hc0_1 : s0.Warps.length ≤ c0_1) (R0_2 : Row el3 w A0_2 s0.Memory) (hc0_2 : s0.Memory.length ≤ c0_2) :
    Cl 163 #[(.agg (bC A0_0 c0_0 A0_1 c0_1 A0_2 c0_2 s0)), (iv x1)] w (fun v_ w_ => v_ = (iv r) ∧ Ext w w_) := by
 have H := wp.qdt.math s0 x1 hp
 refine begK mixed Tryz.f163 ann (vc A0_0 s0.Code.length c0_0 A0_1 s0.Warps.length c0_1 A0_2 s0.Memory.length c0_2 s0.Waiting s0.Phase x1) ?_
 unfold vc
 unfold wp.qdt at H
 refine qax (fun g4_ w21 L4 O4 e22 => ?_)
 have hB := qa5 (Ext.refl w) e22
 refine ⟨_, _, _, (O4.a 1), ?_⟩
 obtain ⟨hc23, H⟩ := H
 refine ⟨hc23, ?_⟩
 obtain ⟨J26, ⟨m43, hJ42⟩, hS27⟩ := H
 refine ⟨fun m_ z_ w_ => ∃ (i24 : Int), z_ = (i24, ()) ∧ J26 m_ (i24, ()) ∧ Ext w w_ ∧ Blk w_ g4_ 33 (bC A0_0 c0_0 A0_1 c0_1 A0_2 c0_2 s0), ⟨m43, 0, rfl, hJ42, hB, O4⟩, ?_⟩
 rintro m25 _ w29 ⟨i24, rfl, hJ44, hB, O4⟩
 have H := hS27 m25 _ hJ44
 clear hS27 hJ44
 try dsimp only at H ⊢
 refine brc H (fun h H => ?_) fun h H => ?_
 ·obtain ⟨hc30, H⟩ := H
  refine ⟨hc30, _, _, _, (O4.a 0), _, _, _, (O4.a 1), _, _, _, (O4.a 2), _, (O4.a 3), _, (O4.a 4), ?_⟩
  obtain ⟨hp33, H⟩ := H
  obtain ⟨r31, hr32, H⟩ := qad H
  refine (qcC.con hp33 hr32 (R0_0.ext hB) hc0_0 (R0_1.ext hB) hc0_1 (R0_2.ext hB) hc0_2).mono ?_
  rintro _ w34 ⟨rfl, e35⟩
  have O4 := O4.ext e35
  have hB := qa5 hB e35
  refine ⟨r31, rfl, ?_⟩
  refine brc H (fun h H => ?_) fun h H => ?_
  ·cases hr.trans H.symm
   exact ⟨rfl, hB⟩
  obtain ⟨m36, hm37, hJ38⟩ := H
  exact ⟨m36, hm37, _, rfl, hJ38, hB, O4⟩
 cases hr.trans H.symm
 exact ⟨rfl, hB⟩
def qaX.vc (A0_0 : OA) (n0_0 c0_0 : Nat) (A0_1 : OA) (n0_1 c0_1 : Nat) (A0_2 : OA) (n0_2 c0_2 : Nat) (x0_3 x0_4 x1 : Int) (w : World) (K : VK) : Prop :=
  newK w (.cells (vB A0_0 n0_0 c0_0 A0_1 n0_1 c0_1 A0_2 n0_2 c0_2 x0_3 x0_4) 33) fun g21 w22 => ldS w22 (((bx g21).add 1).add 0) fun A23 n24 c25 => qdA (σ := Int × Unit) (fun z26 w27 next28 => qa1 (decide (z26.1 < ((n24 : Nat) : Int))) (((((n24 : Nat) : Int) : Int) ≠ 0 ∧ ((((n24 : Nat) : Int) : Int) ≠ 0 ∧ ldB w27 (bx g21) fun A29 n30 c31 A32 n33 c34 A35 n36 c37 n38 n39 => Cl 61 #[(.agg (vB A29 n30 c31 A32 n33 c34 A35 n36 c37 n38 n39)), (iv (Int.tmod (wrap .i64 ((Int.tmod x1 ((n24 : Nat) : Int)) + z26.1)) ((n24 : Nat) : Int)))] w27 fun v40 w41 => (∃ (b42 : Bool), v40 = (.bool b42) ∧ qa1 b42 (K (iv (Int.tmod (wrap .i64 ((Int.tmod x1 ((n24 : Nat) : Int)) + z26.1)) ((n24 : Nat) : Int))) w41) (next28 ((wrap .i64 (z26.1 + 1)), ()) w41))))) (K (iv (-1)) w27)) (0, ()) w22

def qaX.ann : Ann := (.seq .l (.seq .l (.seq (.seq .l (.one (.loop [(12, .int .i64)] (.seq .l (.seq (.two .l .l) (.seq (.one (.seq .l (.seq .l (.seq .l (.two (.seq .l .l) .l))))) .l)))))) (.seq .l .l))))

theorem qaX.con {s0 : D.Block} {A0_0 A0_1 A0_2 : OA} {c0_0 c0_1 c0_2 : Nat} {x1 r : Int} {w : World} (hp : M.qdV s0 x1) (hr : r = M.qaX s0 x1) (R0_0 : Row el84 w A0_0 s0.Code) (hc0_0 : s0.Code.length ≤ c0_0) (R0_1 : RowW 52 el91 el3 w A0_1 s0.Warps) (hc0_1 : s0.Warps.length ≤ c0_1) (R0_2 : Row el3 w A0_2 s0.Memory) (hc0_2 : s0.Memory.length ≤ c0_2) :
    Cl 81 #[(.agg (bC A0_0 c0_0 A0_1 c0_1 A0_2 c0_2 s0)), (iv x1)] w (fun v_ w_ => v_ = (iv r) ∧ Ext w w_) := by
 have H := wp.qaX.math s0 x1 hp
 refine begK mixed Tryz.f81 ann (vc A0_0 s0.Code.length c0_0 A0_1 s0.Warps.length c0_1 A0_2 s0.Memory.length c0_2 s0.Waiting s0.Phase x1) ?_
 unfold vc
 unfold wp.qaX at H
 refine qax (fun g4_ w21 L4 O4 e22 => ?_)
 have hB := qa5 (Ext.refl w) e22
 refine ⟨_, _, _, (O4.a 1), ?_⟩
 obtain ⟨J25, ⟨m43, hJ42⟩, hS26⟩ := H
 refine ⟨fun m_ z_ w_ => ∃ (i23 : Int), z_ = (i23, ()) ∧ J25 m_ (i23, ()) ∧ Ext w w_ ∧ Blk w_ g4_ 33 (bC A0_0 c0_0 A0_1 c0_1 A0_2 c0_2 s0), ⟨m43, 0, rfl, hJ42, hB, O4⟩, ?_⟩
 rintro m24 _ w28 ⟨i23, rfl, hJ44, hB, O4⟩
 have H := hS26 m24 _ hJ44
 clear hS26 hJ44
 try dsimp only at H ⊢
 refine brc H (fun h H => ?_) fun h H => ?_
 ·obtain ⟨hc29, H⟩ := H
  refine ⟨hc29, ?_⟩
  obtain ⟨hc30, H⟩ := H
  refine ⟨hc30, _, _, _, (O4.a 0), _, _, _, (O4.a 1), _, _, _, (O4.a 2), _, (O4.a 3), _, (O4.a 4), ?_⟩
  obtain ⟨hp33, H⟩ := H
  obtain ⟨r31, hr32, H⟩ := qad H
  refine (qaz.con hp33 hr32 (R0_0.ext hB) hc0_0 (R0_1.ext hB) hc0_1 (R0_2.ext hB) hc0_2).mono ?_
  rintro _ w34 ⟨rfl, e35⟩
  have O4 := O4.ext e35
  have hB := qa5 hB e35
  refine ⟨r31, rfl, ?_⟩
  refine brc H (fun h H => ?_) fun h H => ?_
  ·cases hr.trans H.symm
   exact ⟨rfl, hB⟩
  obtain ⟨m36, hm37, hJ38⟩ := H
  exact ⟨m36, hm37, _, rfl, hJ38, hB, O4⟩
 cases hr.trans H.symm
 exact ⟨rfl, hB⟩
def qcp.vc (A0_0 : OA) (n0_0 c0_0 : Nat) (A0_1 : OA) (n0_1 c0_1 : Nat) (A0_2 : OA) (n0_2 c0_2 : Nat) (x0_3 x0_4 x1 : Int) (w : World) (K : VK) : Prop :=
  newK w (.cells (vB A0_0 n0_0 c0_0 A0_1 n0_1 c0_1 A0_2 n0_2 c0_2 x0_3 x0_4) 33) fun g21 w22 => qa1 (decide (x1 < 0)) (K (iv (-1)) w22) (ldB w22 (bx g21) fun A23 n24 c25 A26 n27 c28 A29 n30 c31 n32 n33 => Cl 32 #[(.agg (vB A23 n24 c25 A26 n27 c28 A29 n30 c31 n32 n33))] w22 fun v34 w35 => (∃ (b36 : Bool), v34 = (.bool b36) ∧ qa1 (!b36) (K (iv (-1)) w35) (ldB w35 (bx g21) fun A37 n38 c39 A40 n41 c42 A43 n44 c45 n46 n47 => Cl 81 #[(.agg (vB A37 n38 c39 A40 n41 c42 A43 n44 c45 n46 n47)), (iv x1)] w35 fun v48 w49 => (∃ (n50 : Int), v48 = (iv n50) ∧ K (iv n50) w49))))

def qcp.ann : Ann := (.seq .l (.seq (.seq .l (.two (.seq .l .l) .l)) (.seq .l .l)))

theorem qcp.con {s0 : D.Block} {A0_0 A0_1 A0_2 : OA} {c0_0 c0_1 c0_2 : Nat} {x1 r : Int} {w : World} (hp : M.qg6 s0 x1) (hr : r = M.qcp s0 x1) (R0_0 : Row el84 w A0_0 s0.Code) (hc0_0 : s0.Code.length ≤ c0_0) (R0_1 : RowW 52 el91 el3 w A0_1 s0.Warps) (hc0_1 : s0.Warps.length ≤ c0_1) (R0_2 : Row el3 w A0_2 s0.Memory) (hc0_2 : s0.Memory.length ≤ c0_2) :
    Cl 35 #[(.agg (bC A0_0 c0_0 A0_1 c0_1 A0_2 c0_2 s0)), (iv x1)] w (fun v_ w_ => v_ = (iv r) ∧ Ext w w_) := by
 have H := wp.qcp.math s0 x1 hp
 refine begK mixed Tryz.f35 ann (vc A0_0 s0.Code.length c0_0 A0_1 s0.Warps.length c0_1 A0_2 s0.Memory.length c0_2 s0.Waiting s0.Phase x1) ?_
 unfold vc
 unfold wp.qcp at H
 refine qax (fun g4_ w21 L4 O4 e22 => ?_)
 have hB := qa5 (Ext.refl w) e22
 refine brc H (fun h H => ?_) fun h H => ?_
 ·cases hr.trans H.symm
  exact ⟨rfl, hB⟩
 refine ⟨_, _, _, (O4.a 0), _, _, _, (O4.a 1), _, _, _, (O4.a 2), _, (O4.a 3), _, (O4.a 4), ?_⟩
 obtain ⟨hp25, H⟩ := H
 obtain ⟨r23, hr24, H⟩ := qad H
 refine (qbl.con hp25 hr24 (R0_0.ext hB) hc0_0 (R0_1.ext hB) hc0_1 (R0_2.ext hB) hc0_2).mono ?_
 rintro _ w26 ⟨rfl, e27⟩
 have O4 := O4.ext e27
 have hB := qa5 hB e27
 refine ⟨r23, rfl, ?_⟩
 refine brc H (fun h H => ?_) fun h H => ?_
 ·cases hr.trans H.symm
  exact ⟨rfl, hB⟩
 refine ⟨_, _, _, (O4.a 0), _, _, _, (O4.a 1), _, _, _, (O4.a 2), _, (O4.a 3), _, (O4.a 4), ?_⟩
 obtain ⟨hp30, H⟩ := H
 obtain ⟨r28, hr29, H⟩ := qad H
 refine (qaX.con hp30 hr29 (R0_0.ext hB) hc0_0 (R0_1.ext hB) hc0_1 (R0_2.ext hB) hc0_2).mono ?_
 rintro _ w31 ⟨rfl, e32⟩
 have hB := qa5 hB e32
 refine ⟨r28, rfl, ?_⟩
 cases hr.trans H.symm
 exact ⟨rfl, hB⟩
def qbY.vc (A0_0 : OA) (n0_0 c0_0 : Nat) (A0_1 : OA) (n0_1 c0_1 : Nat) (A0_2 : OA) (n0_2 c0_2 : Nat) (x0_3 x0_4 : Int) (w : World) (K : VK) : Prop :=
  newK w (.cells (vB A0_0 n0_0 c0_0 A0_1 n0_1 c0_1 A0_2 n0_2 c0_2 x0_3 x0_4) 33) fun g21 w22 => ldB w22 (bx g21) fun A24 n25 c26 A27 n28 c29 A30 n31 c32 n33 n34 => Cl 32 #[(.agg (vB A24 n25 c26 A27 n28 c29 A30 n31 c32 n33 n34))] w22 fun v35 w36 => (∃ (b37 : Bool), v35 = (.bool b37) ∧ qa1 (!b37) (K (.bool false) w36) (ldB w36 (bx g21) fun A38 n39 c40 A41 n42 c43 A44 n45 c46 n47 n48 => Cl 60 #[(.agg (vB A38 n39 c40 A41 n42 c43 A44 n45 c46 n47 n48))] w36 fun v49 w50 => (∃ (b51 : Bool), v49 = (.bool b51) ∧ qa1 b51 (K (.bool false) w50) (ldS w50 (((bx g21).add 1).add 0) fun A52 n53 c54 => qdA (σ := Int × Unit) (fun z55 w56 next57 => qa1 (decide (z55.1 < ((n53 : Nat) : Int))) (ldB w56 (bx g21) fun A58 n59 c60 A61 n62 c63 A64 n65 c66 n67 n68 => Cl 61 #[(.agg (vB A58 n59 c60 A61 n62 c63 A64 n65 c66 n67 n68)), (iv z55.1)] w56 fun v69 w70 => (∃ (b71 : Bool), v69 = (.bool b71) ∧ qa1 b71 (K (.bool false) w70) (next57 ((wrap .i64 (z55.1 + 1)), ()) w70))) (K (.bool true) w56)) (0, ()) w50))))

def qbY.ann : Ann := (.seq .l (.seq (.seq .l (.two (.seq .l .l) .l)) (.seq (.seq .l (.one (.loop [(14, .int .i64)] (.seq .l (.seq (.two .l .l) (.seq (.one (.seq .l (.seq .l (.two (.seq .l .l) .l)))) .l)))))) (.seq .l .l))))

theorem qbY.con {s0 : D.Block} {A0_0 A0_1 A0_2 : OA} {c0_0 c0_1 c0_2 : Nat} {r : Bool} {w : World} (hp : M.qf6 s0) (hr : r = M.qbY s0) (R0_0 : Row el84 w A0_0 s0.Code) (hc0_0 : s0.Code.length ≤ c0_0) (R0_1 : RowW 52 el91 el3 w A0_1 s0.Warps) (hc0_1 : s0.Warps.length ≤ c0_1) (R0_2 : Row el3 w A0_2 s0.Memory) (hc0_2 : s0.Memory.length ≤ c0_2) :
    Cl 20 #[(.agg (bC A0_0 c0_0 A0_1 c0_1 A0_2 c0_2 s0))] w (fun v_ w_ => v_ = (.bool r) ∧ Ext w w_) := by
 have H := wp.qbY.math s0 hp
 refine begK mixed Tryz.f20 ann (vc A0_0 s0.Code.length c0_0 A0_1 s0.Warps.length c0_1 A0_2 s0.Memory.length c0_2 s0.Waiting s0.Phase) ?_
 unfold vc
 unfold wp.qbY at H
 refine qax (fun g4_ w21 L4 O4 e22 => ?_)
 have hB := qa5 (Ext.refl w) e22
 refine ⟨_, _, _, (O4.a 0), _, _, _, (O4.a 1), _, _, _, (O4.a 2), _, (O4.a 3), _, (O4.a 4), ?_⟩
 obtain ⟨hp25, H⟩ := H
 obtain ⟨r23, hr24, H⟩ := qad H
 refine (qbl.con hp25 hr24 (R0_0.ext hB) hc0_0 (R0_1.ext hB) hc0_1 (R0_2.ext hB) hc0_2).mono ?_
 rintro _ w26 ⟨rfl, e27⟩
 have O4 := O4.ext e27
 have hB := qa5 hB e27
 refine ⟨r23, rfl, ?_⟩
 refine brc H (fun h H => ?_) fun h H => ?_
 ·cases hr.trans H.symm
  exact ⟨rfl, hB⟩
 refine ⟨_, _, _, (O4.a 0), _, _, _, (O4.a 1), _, _, _, (O4.a 2), _, (O4.a 3), _, (O4.a 4), ?_⟩
 obtain ⟨hp30, H⟩ := H
 obtain ⟨r28, hr29, H⟩ := qad H
 refine (qbb.con hp30 hr29 (R0_0.ext hB) hc0_0 (R0_1.ext hB) hc0_1 (R0_2.ext hB) hc0_2).mono ?_
 rintro _ w31 ⟨rfl, e32⟩
 have O4 := O4.ext e32
 have hB := qa5 hB e32
 refine ⟨r28, rfl, ?_⟩
 refine brc H (fun h H => ?_) fun h H => ?_
 ·cases hr.trans H.symm
  exact ⟨rfl, hB⟩
 refine ⟨_, _, _, (O4.a 1), ?_⟩
 obtain ⟨J35, ⟨m51, hJ50⟩, hS36⟩ := H
 refine ⟨fun m_ z_ w_ => ∃ (i33 : Int), z_ = (i33, ()) ∧ J35 m_ (i33, ()) ∧ Ext w w_ ∧ Blk w_ g4_ 33 (bC A0_0 c0_0 A0_1 c0_1 A0_2 c0_2 s0), ⟨m51, 0, rfl, hJ50, hB, O4⟩, ?_⟩
 rintro m34 _ w38 ⟨i33, rfl, hJ52, hB, O4⟩
 have H := hS36 m34 _ hJ52
 clear hS36 hJ52
 try dsimp only at H ⊢
 refine brc H (fun h H => ?_) fun h H => ?_
 ·refine ⟨_, _, _, (O4.a 0), _, _, _, (O4.a 1), _, _, _, (O4.a 2), _, (O4.a 3), _, (O4.a 4), ?_⟩
  obtain ⟨hp41, H⟩ := H
  obtain ⟨r39, hr40, H⟩ := qad H
  refine (qaz.con hp41 hr40 (R0_0.ext hB) hc0_0 (R0_1.ext hB) hc0_1 (R0_2.ext hB) hc0_2).mono ?_
  rintro _ w42 ⟨rfl, e43⟩
  have O4 := O4.ext e43
  have hB := qa5 hB e43
  refine ⟨r39, rfl, ?_⟩
  refine brc H (fun h H => ?_) fun h H => ?_
  ·cases hr.trans H.symm
   exact ⟨rfl, hB⟩
  obtain ⟨m44, hm45, hJ46⟩ := H
  exact ⟨m44, hm45, _, rfl, hJ46, hB, O4⟩
 cases hr.trans H.symm
 exact ⟨rfl, hB⟩
def qcS.vc (A0 : OA) (n0 c0 : Nat) (x1 : Int) (w : World) (K : VK) : Prop :=
  Run Tryz.prog (Instr.buildSlice 24 0 #[]) w fun v21 w22 => ∃ (A23 : OA) (n24 c25 : Nat), v21 = .slice A23 n24 c25 ∧ qdA (σ := (OA × Nat × Nat) × Int × Unit) (fun z26 w27 next28 => qa1 (decide (z26.2.1 < ((n0 : Nat) : Int))) ((idx z26.2.1 n0 A0 fun a29 => ldI w27 ((a29.add ((z26.2.1.toNat) * 1)).add 0) fun n30 => qa1 (n30 != x1) ((idx z26.2.1 n0 A0 fun a31 => ldI w27 ((a31.add ((z26.2.1.toNat) * 1)).add 0) fun n32 => Run Tryz.prog (Instr.buildSlice 24 1 #[(0, (iv n32))]) w27 fun v33 w34 => ∃ (A35 : OA) (n36 c37 : Nat), v33 = .slice A35 n36 c37 ∧ Run Tryz.prog (Builtin.append_ #[24, 24] 24 #[(sv z26.1.1 z26.1.2.1 z26.1.2.2), (sv A35 n36 c37)]) w34 fun v38 w39 => ∃ (A40 : OA) (n41 c42 : Nat), v38 = .slice A40 n41 c42 ∧ next28 ((A40, n41, c42), (wrap .i64 (z26.2.1 + 1)), ()) w39)) (next28 ((z26.1.1, z26.1.2.1, z26.1.2.2), (wrap .i64 (z26.2.1 + 1)), ()) w27))) (K (sv z26.1.1 z26.1.2.1 z26.1.2.2) w27)) ((A23, n24, c25), 0, ()) w22

def qcS.ann : Ann := (.seq .l (.seq .l (.seq (.seq .l (.one (.loop [(5, .sl), (6, .int .i64)] (.seq (.seq .l (.two .l .l)) (.seq (.one (.seq .l (.two .l .l))) .l))))) (.seq .l .l))))

theorem qcS.con {xs0 r : List Int} {A0 : OA} {c0 : Nat} {x1 : Int} {w : World} (hp : M.qfC xs0 x1) (hr : r = M.qcS xs0 x1) (R0 : Row el3 w A0 xs0) (hc0 : xs0.length ≤ c0) :
    Cl 253 #[(sv A0 xs0.length c0), (iv x1)] w (fun v_ w_ => ∃ (A0_ : OA) (c0_ : Nat), v_ = (sv A0_ r.length c0_) ∧ Own el3 w_ w.heap.size A0_ c0_ r ∧ Ext w w_) := by
 have H := wp.qcS.math xs0 x1 hp
 have hB := Ext.refl w
 refine begK mixed Tryz.f253 ann (vc A0 xs0.length c0 x1) ?_
 unfold vc
 unfold wp.qcS at H
 refine qap el3 ([] : List Int) (fun _ => by kernel_rfl) rfl (fun A21 w22 P2 e23 => ?_)
 have O2 := P2.mono hB.size
 have hB := qa5 hB e23
 obtain ⟨J29, ⟨m61, hJ60⟩, hS30⟩ := H
 refine ⟨fun m_ z_ w_ => ∃ (xs24 : List Int) (i27 : Int) (A25 : OA) (c26 : Nat), z_ = ((A25, xs24.length, c26), i27, ()) ∧ J29 m_ (xs24, i27, ()) ∧ Ext w w_ ∧ Own el3 w_ w.heap.size A25 c26 xs24, ⟨m61, ([] : List Int), 0, A21, 0, rfl, hJ60, hB, O2⟩, ?_⟩
 rintro m28 _ w32 ⟨xs24, i27, A25, c26, rfl, hJ62, hB, O3⟩
 have H := hS30 m28 _ hJ62
 clear hS30 hJ62
 try dsimp only at H ⊢
 refine brc H (fun h H => ?_) fun h H => ?_
 ·obtain ⟨⟨h0_36, h1_37⟩, H⟩ := H
  obtain ⟨a34, ha35, hat33⟩ := Row.at (R0.ext hB) h0_36 h1_37
  refine ⟨h0_36, h1_37, a34, ha35, _, (hat33 0 _ rfl), ?_⟩
  refine brc H (fun h H => ?_) fun h H => ?_
  ·obtain ⟨⟨h0_41, h1_42⟩, H⟩ := H
   obtain ⟨a39, ha40, hat38⟩ := Row.at (R0.ext hB) h0_41 h1_42
   refine ⟨h0_41, h1_42, a39, ha40, _, (hat38 0 _ rfl), ?_⟩
   refine qap el3 ([(rd xs0 i27)] : List Int) (fun _ => by kernel_rfl) rfl (fun A43 w44 P4 e45 => ?_)
   have O3 := O3.ext e45
   have O4 := P4.mono hB.size
   have hB := qa5 hB e45
   obtain ⟨hl50, H⟩ := H
   refine appO qdZ O3 O4.row hB.size hl50 (fun A46 c47 w48 P3 e49 => ?_)
   have hB := eapp hB e49 O3
   have O3 := P3
   obtain ⟨m51, hm52, hJ53⟩ := H
   exact ⟨m51, hm52, _, _, A46, c47, rfl, hJ53, hB, O3⟩
  obtain ⟨m54, hm55, hJ56⟩ := H
  exact ⟨m54, hm55, xs24, _, A25, c26, rfl, hJ56, hB, O3⟩
 cases hr.trans H.symm
 exact ⟨A25, c26, rfl, O3, hB⟩
def qdK.vc (A0 : OA) (n0 c0 : Nat) (x1 : Int) (w : World) (K : VK) : Prop :=
  Cl 160 #[(sv A0 n0 c0)] w fun v21 w22 => (∃ (b23 : Bool), v21 = (.bool b23) ∧ qa1 b23 (Cl 99 #[(iv x1), (iv 0), (iv ((n0 : Nat) : Int))] w22 fun v24 w25 => (∃ (b26 : Bool), v24 = (.bool b26) ∧ K (.bool b26) w25)) (K (.bool false) w22))

def qdK.ann : Ann := (.seq .l (.seq .l .l))

theorem qdK.con {xs0 : List D.Ins} {A0 : OA} {c0 : Nat} {x1 : Int} {r : Bool} {w : World} (hp : M.qh0 xs0 x1) (hr : r = M.qdK xs0 x1) (R0 : Row el84 w A0 xs0) (hc0 : xs0.length ≤ c0) :
    Cl 250 #[(sv A0 xs0.length c0), (iv x1)] w (fun v_ w_ => v_ = (.bool r) ∧ Ext w w_) := by
 have H := wp.qdK.math xs0 x1 hp
 have hB := Ext.refl w
 refine begK mixed Tryz.f250 ann (vc A0 xs0.length c0 x1) ?_
 unfold vc
 unfold wp.qdK at H
 obtain ⟨hp23, H⟩ := H
 obtain ⟨r21, hr22, H⟩ := qad H
 refine (qb6.con hp23 hr22 (R0.ext hB) hc0).mono ?_
 rintro _ w24 ⟨rfl, e25⟩
 have hB := qa5 hB e25
 refine ⟨r21, rfl, ?_⟩
 refine brc H (fun h H => ?_) fun h H => ?_
 ·obtain ⟨r26, hr27, H⟩ := qad H
  refine (qaQ.con hr27 ).mono ?_
  rintro _ w29 ⟨rfl, e30⟩
  have hB := qa5 hB e30
  refine ⟨r26, rfl, ?_⟩
  cases hr.trans H.symm
  exact ⟨rfl, hB⟩
 cases hr.trans H.symm
 exact ⟨rfl, hB⟩
def qcP.vc (A0 : OA) (n0 c0 : Nat) (x1 : Int) (w : World) (K : VK) : Prop :=
  qfL (σ := Int × Unit) (fun J21 => qdA (σ := Int × Unit) (fun z22 w23 next24 => qa1 (decide (z22.1 > 0)) ((idx (wrap .i64 (z22.1 - 1)) n0 A0 fun a25 => ldI w23 ((a25.add (((wrap .i64 (z22.1 - 1)).toNat) * 1)).add 0) fun n26 => qa1 (decide (n26 > x1)) (next24 ((wrap .i64 (z22.1 - 1)), ()) w23) (J21 (z22.1, ()) w23))) (J21 (z22.1, ()) w23)) (((n0 : Nat) : Int), ()) w) fun z27 w28 => qfL (σ := Unit) (fun J29 => qa1 (decide (z27.1 > 0)) ((idx (wrap .i64 (z27.1 - 1)) n0 A0 fun a30 => ldI w28 ((a30.add (((wrap .i64 (z27.1 - 1)).toNat) * 1)).add 0) fun n31 => qa1 (n31 == x1) (K (sv A0 n0 c0) w28) (J29 () w28))) (J29 () w28)) fun z32 w33 => Run Tryz.prog (Instr.buildSlice 24 0 #[]) w33 fun v34 w35 => ∃ (A36 : OA) (n37 c38 : Nat), v34 = .slice A36 n37 c38 ∧ ((0 : Int) ≤ z27.1 ∧ z27.1 ≤ ((c0 : Nat) : Int) ∧ Run Tryz.prog (Builtin.append_ #[24, 24] 24 #[(sv A36 n37 c38), (sv A0 (z27.1.toNat) c0)]) w35 fun v39 w40 => ∃ (A41 : OA) (n42 c43 : Nat), v39 = .slice A41 n42 c43 ∧ Run Tryz.prog (Instr.buildSlice 24 1 #[(0, (iv x1))]) w40 fun v44 w45 => ∃ (A46 : OA) (n47 c48 : Nat), v44 = .slice A46 n47 c48 ∧ Run Tryz.prog (Builtin.append_ #[24, 24] 24 #[(sv A41 n42 c43), (sv A46 n47 c48)]) w45 fun v49 w50 => ∃ (A51 : OA) (n52 c53 : Nat), v49 = .slice A51 n52 c53 ∧ ((0 : Int) ≤ z27.1 ∧ z27.1 ≤ ((n0 : Nat) : Int) ∧ Run Tryz.prog (Builtin.append_ #[24, 24] 24 #[(sv A51 n52 c53), (sv (if c0 = (z27.1.toNat) then A0 else A0.map (·.add ((z27.1.toNat) * szOf Tryz.prog 3))) (n0 - (z27.1.toNat)) (c0 - (z27.1.toNat)))]) w50 fun v54 w55 => ∃ (A56 : OA) (n57 c58 : Nat), v54 = .slice A56 n57 c58 ∧ K (sv A56 n57 c58) w55))

def qcP.ann : Ann := (.seq .l (.seq .l (.cut [(5, .int .i64)] (.one (.loop [(5, .int .i64)] (.seq (.seq .l (.two .l .l)) (.one .l)))) (.cut [] (.seq .l (.two (.seq .l .l) .l)) (.seq .l (.seq .l (.seq .l .l)))))))

theorem qcP.con {xs0 r : List Int} {A0 : OA} {c0 : Nat} {x1 : Int} {w : World} (hp : M.qgQ xs0 x1) (hr : r = M.qcP xs0 x1) (O1 : Own el3 w 0 A0 c0 xs0) :
    Cl 102 #[(sv A0 xs0.length c0), (iv x1)] w (fun v_ w_ => ∃ (A0_ : OA) (c0_ : Nat), v_ = (sv A0_ r.length c0_) ∧ Own el3 w_ 0 A0_ c0_ r ∧ Mov w A0 A0_ ∧ Chg (InB A0) w w_) := by
 have H := wp.qcP.math xs0 x1 hp
 have hB := Chg.refl (InB A0) w
 refine begK mixed Tryz.f102 ann (vc A0 xs0.length c0 x1) ?_
 unfold vc
 unfold wp.qcP at H
 obtain ⟨K83, hKK83, H⟩ := qcR H
 refine ⟨fun z_ w_ => ∃ (i21 : Int), z_ = (i21, ()) ∧ K83 (i21, ()) ∧ Chg (InB A0) w w_ ∧ Own el3 w_ 0 A0 c0 xs0, ?_, ?_⟩
 ·obtain ⟨J27, ⟨m43, hJ42⟩, hS28⟩ := H
  refine ⟨fun m_ z_ w_ => ∃ (i25 : Int), z_ = (i25, ()) ∧ J27 m_ (i25, ()) ∧ Chg (InB A0) w w_ ∧ Own el3 w_ 0 A0 c0 xs0, ⟨m43, (xs0.length : Int), rfl, hJ42, hB, O1⟩, ?_⟩
  rintro m26 _ w30 ⟨i25, rfl, hJ44, hB, O1⟩
  have H := hS28 m26 _ hJ44
  clear hS28 hJ44
  try dsimp only at H ⊢
  refine brc H (fun h H => ?_) fun h H => ?_
  ·obtain ⟨⟨h0_34, h1_35⟩, H⟩ := H
   obtain ⟨a32, ha33, hat31⟩ := Row.at O1.row h0_34 h1_35
   refine ⟨h0_34, h1_35, a32, ha33, _, (hat31 0 _ rfl), ?_⟩
   refine brc H (fun h H => ?_) fun h H => ?_
   ·obtain ⟨m36, hm37, hJ38⟩ := H
    exact ⟨m36, hm37, _, rfl, hJ38, hB, O1⟩
   exact ⟨i25, rfl, H, hB, O1⟩
  exact ⟨i25, rfl, H, hB, O1⟩
 rintro _ w23 ⟨i21, rfl, H, hB, O1⟩
 have H := hKK83 _ H
 try dsimp only at H ⊢
 obtain ⟨K81, hKK81, H⟩ := qcR H
 refine ⟨fun z_ w_ => z_ = (()) ∧ K81 (()) ∧ Chg (InB A0) w w_ ∧ Own el3 w_ 0 A0 c0 xs0, ?_, ?_⟩
 ·refine brc H (fun h H => ?_) fun h H => ?_
  ·obtain ⟨⟨h0_51, h1_52⟩, H⟩ := H
   obtain ⟨a49, ha50, hat48⟩ := Row.at O1.row h0_51 h1_52
   refine ⟨h0_51, h1_52, a49, ha50, _, (hat48 0 _ rfl), ?_⟩
   refine brc H (fun h H => ?_) fun h H => ?_
   ·cases hr.trans H.symm
    exact ⟨A0, c0, rfl, (O1.mono (Nat.zero_le _)), (Mov.same _ _), hB⟩
   exact ⟨rfl, H, hB, O1⟩
  exact ⟨rfl, H, hB, O1⟩
 rintro _ w46 ⟨rfl, H, hB, O1⟩
 have H := hKK81 _ H
 try dsimp only at H ⊢
 refine qap el3 ([] : List Int) (fun _ => by kernel_rfl) rfl (fun A55 w56 P2 e57 => ?_)
 have N1_2 := aN O1 P2
 have O1 := O1.ext e57
 have O2 := P2.mono hB.size
 have hB := hB.then e57
 obtain ⟨⟨hh58, hh59⟩, H⟩ := H
 refine and_assoc.1 ⟨⟨hh58, Int.le_trans hh59 (Int.ofNat_le.2 O1.le)⟩, ?_⟩
 have O3 := (O1.take (i21.toNat))
 obtain ⟨hl64, H⟩ := H
 refine appO qdZ O2 O3.row hB.size hl64 (fun A60 c61 w62 P2 e63 => ?_)
 have N1_2_ := qcy.app N1_2 e63 O1
 have O1 := O1.app e63 N1_2
 have N1_2 := N1_2_
 have hB := hB.app e63 (fun g h_ => Or.inl (O2.low g h_))
 refine qap el3 ([x1] : List Int) (fun _ => by kernel_rfl) rfl (fun A65 w66 P4 e67 => ?_)
 have O2 := P2.ext e67
 have O4 := P4.mono hB.size
 have hB := hB.then e67
 obtain ⟨hl72, H⟩ := H
 refine appO qdZ O2 O4.row hB.size hl72 (fun A68 c69 w70 P2 e71 => ?_)
 have O1 := (O1.ext e67).app e71 N1_2
 have hB := hB.app e71 (fun g h_ => Or.inl (O2.low g h_))
 have O2 := P2
 obtain ⟨⟨hl73, hl74⟩, H⟩ := H
 refine and_assoc.1 ⟨⟨hl73, hl74⟩, ?_⟩
 have O5 := (O1.drop (l := (i21.toNat)) (by first | omega | (simp; done) | (simp; omega)))
 obtain ⟨hl79, H⟩ := H
 refine appO qdZ O2 O5.row hB.size hl79 (fun A75 c76 w77 P2 e78 => ?_)
 have hB := hB.app e78 (fun g h_ => Or.inl (O2.low g h_))
 have O2 := P2
 cases hr.trans H.symm
 exact ⟨A75, c76, rfl, (O2.mono (Nat.zero_le _)), (Mov.new O2), hB⟩
def qci.vc (A0 : OA) (n0 c0 : Nat) (x1 : Int) (w : World) (K : VK) : Prop :=
  qa1 (x1 == ((n0 : Nat) : Int)) (Run Tryz.prog (Instr.buildSlice 24 0 #[]) w fun v21 w22 => ∃ (A23 : OA) (n24 c25 : Nat), v21 = .slice A23 n24 c25 ∧ K (sv A23 n24 c25) w22) ((idx x1 n0 A0 fun a26 => ldI w (((a26.add ((x1.toNat) * 4)).add 0).add 0) fun n27 => qa1 (n27 == 12) (Run Tryz.prog (Instr.buildSlice 24 1 #[(0, (iv ((n0 : Nat) : Int)))]) w fun v28 w29 => ∃ (A30 : OA) (n31 c32 : Nat), v28 = .slice A30 n31 c32 ∧ K (sv A30 n31 c32) w29) (qa1 (n27 == 11) ((idx x1 n0 A0 fun a33 => ldI w (((a33.add ((x1.toNat) * 4)).add 2).add 0) fun n34 => Run Tryz.prog (Instr.buildSlice 24 1 #[(0, (iv n34))]) w fun v35 w36 => ∃ (A37 : OA) (n38 c39 : Nat), v35 = .slice A37 n38 c39 ∧ K (sv A37 n38 c39) w36)) (qa1 (n27 == 10) (Run Tryz.prog (Instr.buildSlice 24 1 #[(0, (iv (wrap .i64 (x1 + 1))))]) w fun v40 w41 => ∃ (A42 : OA) (n43 c44 : Nat), v40 = .slice A42 n43 c44 ∧ (idx x1 n0 A0 fun a45 => ldI w41 (((a45.add ((x1.toNat) * 4)).add 2).add 0) fun n46 => Cl 102 #[(sv A42 n43 c44), (iv n46)] w41 fun v47 w48 => (∃ (A49 : OA) (n50 c51 : Nat), v47 = (sv A49 n50 c51) ∧ K (sv A49 n50 c51) w48))) (Run Tryz.prog (Instr.buildSlice 24 1 #[(0, (iv (wrap .i64 (x1 + 1))))]) w fun v52 w53 => ∃ (A54 : OA) (n55 c56 : Nat), v52 = .slice A54 n55 c56 ∧ K (sv A54 n55 c56) w53)))))

def qci.ann : Ann := (.seq .l (.seq (.seq .l (.two (.seq .l .l) .l)) (.seq (.seq .l (.one (.seq .l (.two (.seq .l .l) (.seq .l (.two (.seq .l .l) (.seq .l (.two (.seq .l .l) .l)))))))) (.seq .l .l))))

theorem qci.con {xs0 : List D.Ins} {A0 : OA} {c0 : Nat} {x1 : Int} {r : List Int} {w : World} (hp : M.qfa xs0 x1) (hr : r = M.qci xs0 x1) (R0 : Row el84 w A0 xs0) (hc0 : xs0.length ≤ c0) :
    Cl 259 #[(sv A0 xs0.length c0), (iv x1)] w (fun v_ w_ => ∃ (A0_ : OA) (c0_ : Nat), v_ = (sv A0_ r.length c0_) ∧ Own el3 w_ w.heap.size A0_ c0_ r ∧ Ext w w_) := by
 have H := wp.qci.math xs0 x1 hp
 have hB := Ext.refl w
 refine begK mixed Tryz.f259 ann (vc A0 xs0.length c0 x1) ?_
 unfold vc
 unfold wp.qci at H
 refine brc H (fun h H => ?_) fun h H => ?_
 ·refine qap el3 ([] : List Int) (fun _ => by kernel_rfl) rfl (fun A21 w22 P2 e23 => ?_)
  have O2 := P2.mono hB.size
  have hB := qa5 hB e23
  cases hr.trans H.symm
  exact ⟨A21, 0, (by first | rfl | (simp; done) | (simp; omega) | (simp [*]; done)), (by first | exact O2 | (simp only [bC, wC, List.length_set]; exact O2)), hB⟩
 obtain ⟨⟨h0_27, h1_28⟩, H⟩ := H
 obtain ⟨a25, ha26, hat24⟩ := Row.at (R0.ext hB) h0_27 h1_28
 refine ⟨h0_27, h1_28, a25, ha26, _, (hat24 0 _ rfl), ?_⟩
 refine brc H (fun h H => ?_) fun h H => ?_
 ·refine qap el3 ([(xs0.length : Int)] : List Int) (fun _ => by kernel_rfl) rfl (fun A29 w30 P3 e31 => ?_)
  have O3 := P3.mono hB.size
  have hB := qa5 hB e31
  cases hr.trans H.symm
  exact ⟨A29, 1, (by first | rfl | (simp; done) | (simp; omega) | (simp [*]; done)), (by first | exact O3 | (simp only [bC, wC, List.length_set]; exact O3)), hB⟩
 refine brc H (fun h H => ?_) fun h H => ?_
 ·obtain ⟨⟨h0_35, h1_36⟩, H⟩ := H
  obtain ⟨a33, ha34, hat32⟩ := Row.at (R0.ext hB) h0_35 h1_36
  refine ⟨h0_35, h1_36, a33, ha34, _, (hat32 2 _ rfl), ?_⟩
  refine qap el3 ([(rd xs0 x1).B] : List Int) (fun _ => by kernel_rfl) rfl (fun A37 w38 P4 e39 => ?_)
  have O4 := P4.mono hB.size
  have hB := qa5 hB e39
  cases hr.trans H.symm
  exact ⟨A37, 1, (by first | rfl | (simp; done) | (simp; omega) | (simp [*]; done)), (by first | exact O4 | (simp only [bC, wC, List.length_set]; exact O4)), hB⟩
 refine brc H (fun h H => ?_) fun h H => ?_
 ·refine qap el3 ([(wrap .i64 (x1 + 1))] : List Int) (fun _ => by kernel_rfl) rfl (fun A40 w41 P5 e42 => ?_)
  have O5 := P5.mono hB.size
  have hB := qa5 hB e42
  obtain ⟨⟨h0_46, h1_47⟩, H⟩ := H
  obtain ⟨a44, ha45, hat43⟩ := Row.at (R0.ext hB) h0_46 h1_47
  refine ⟨h0_46, h1_47, a44, ha45, _, (hat43 2 _ rfl), ?_⟩
  obtain ⟨hp50, H⟩ := H
  obtain ⟨r48, hr49, H⟩ := qad H
  refine (cllA (qcP.con hp50 hr49 (O5.mono (Nat.zero_le _)))).mono ?_
  rintro _ w51 ⟨A53, c54, rfl, P6, Mv6, e52⟩
  have Lw6 := Mv6.low O5.low hB.size
  have hB := Chg.ext hB e52 O5.low
  have O6 := P6.lift Lw6
  refine ⟨A53, r48.length, c54, rfl, ?_⟩
  cases hr.trans H.symm
  exact ⟨A53, c54, rfl, O6, hB⟩
 refine qap el3 ([(wrap .i64 (x1 + 1))] : List Int) (fun _ => by kernel_rfl) rfl (fun A55 w56 P7 e57 => ?_)
 have O7 := P7.mono hB.size
 have hB := qa5 hB e57
 cases hr.trans H.symm
 exact ⟨A55, 1, (by first | rfl | (simp; done) | (simp; omega) | (simp [*]; done)), (by first | exact O7 | (simp only [bC, wC, List.length_set]; exact O7)), hB⟩
def qcG.vc (A0 : OA) (n0 c0 : Nat) (A1 : OA) (n1 c1 : Nat) (w : World) (K : VK) : Prop :=
  qge Tryz.prog 149 (wrap .i64 (((n0 : Nat) : Int) + 1)) (wrap .i64 (((n0 : Nat) : Int) + 1)) w fun g21 w22 => Run Tryz.prog (Instr.buildSlice 24 0 #[]) w22 fun v23 w24 => ∃ (A25 : OA) (n26 c27 : Nat), v23 = .slice A25 n26 c27 ∧ Run Tryz.prog (Builtin.append_ #[24, 24] 24 #[(sv A25 n26 c27), (sv A1 n1 c1)]) w24 fun v28 w29 => ∃ (A30 : OA) (n31 c32 : Nat), v28 = .slice A30 n31 c32 ∧ qdA (σ := (OA × Nat × Nat) × Unit) (fun z33 w34 next35 => qa1 (decide (((z33.1.2.1 : Nat) : Int) > 0)) ((idx 0 z33.1.2.1 z33.1.1 fun a36 => ldI w34 ((a36.add (((0 : Int).toNat) * 1)).add 0) fun n37 => ((0 : Int) ≤ 1 ∧ 1 ≤ ((z33.1.2.1 : Nat) : Int) ∧ (idx n37 ((wrap .i64 (((n0 : Nat) : Int) + 1)).toNat) ((some (bx g21))) fun a38 => ∃ (b39 : Bool), w34.cell? ((a38.add ((n37.toNat) * 1)).add 0) = some (.bool b39) ∧ qa1 b39 (next35 (((if z33.1.2.2 = ((1 : Int).toNat) then z33.1.1 else z33.1.1.map (·.add (((1 : Int).toNat) * szOf Tryz.prog 3))), (z33.1.2.1 - ((1 : Int).toNat)), (z33.1.2.2 - ((1 : Int).toNat))), ()) w34) ((idx n37 ((wrap .i64 (((n0 : Nat) : Int) + 1)).toNat) ((some (bx g21))) fun a40 => qa7 (a40.add ((n37.toNat) * 1)) [(.bool true)] 0 w34 fun w41 => Cl 259 #[(sv A0 n0 c0), (iv n37)] w41 fun v42 w43 => (∃ (A44 : OA) (n45 c46 : Nat), v42 = (sv A44 n45 c46) ∧ Run Tryz.prog (Builtin.append_ #[24, 24] 24 #[(sv (if z33.1.2.2 = ((1 : Int).toNat) then z33.1.1 else z33.1.1.map (·.add (((1 : Int).toNat) * szOf Tryz.prog 3))) (z33.1.2.1 - ((1 : Int).toNat)) (z33.1.2.2 - ((1 : Int).toNat))), (sv A44 n45 c46)]) w43 fun v47 w48 => ∃ (A49 : OA) (n50 c51 : Nat), v47 = .slice A49 n50 c51 ∧ next35 ((A49, n50, c51), ()) w48))))))) (K (sv (some (bx g21)) ((wrap .i64 (((n0 : Nat) : Int) + 1)).toNat) ((wrap .i64 (((n0 : Nat) : Int) + 1)).toNat)) w34)) ((A30, n31, c32), ()) w29

def qcG.ann : Ann := (.seq .l (.seq .l (.seq .l (.seq (.one (.loop [(6, .sl)] (.seq (.seq .l (.two .l .l)) (.one (.seq .l (.seq .l (.seq (.seq .l (.two .l .l)) (.seq .l .l)))))))) (.seq .l .l)))))

theorem qcG.con {xs0 : List D.Ins} {A0 A1 : OA} {c0 c1 : Nat} {xs1 : List Int} {r : List Bool} {w : World} (hp : M.qfP xs0 xs1) (hr : r = M.qcG xs0 xs1) (R0 : Row el84 w A0 xs0) (hc0 : xs0.length ≤ c0) (R1 : Row el3 w A1 xs1) (hc1 : xs1.length ≤ c1) :
    Cl 251 #[(sv A0 xs0.length c0), (sv A1 xs1.length c1)] w (fun v_ w_ => ∃ (A0_ : OA) (c0_ : Nat), v_ = (sv A0_ r.length c0_) ∧ Own el4 w_ w.heap.size A0_ c0_ r ∧ Ext w w_) := by
 have H := wp.qcG.math xs0 xs1 hp
 have hB := Ext.refl w
 refine begK mixed Tryz.f251 ann (vc A0 xs0.length c0 A1 xs1.length c1) ?_
 unfold vc
 unfold wp.qcG at H
 obtain ⟨⟨h0_24, h1_25⟩, H⟩ := H
 refine qfZ qnh h0_24 h1_25 (fun g21 w22 P3 e23 => ?_)
 have O3 := P3.mono hB.size
 have hB := qa5 hB e23
 refine qap el3 ([] : List Int) (fun _ => by kernel_rfl) rfl (fun A26 w27 P4 e28 => ?_)
 have N3_4 := aN O3 P4
 have O4 := P4.mono hB.size
 have hB := qa5 hB e28
 obtain ⟨hl33, H⟩ := H
 refine appO qdZ O4 (R1.ext hB) hB.size hl33 (fun A29 c30 w31 P4 e32 => ?_)
 have O3 := (O3.ext e28).app e32 N3_4
 have hB := eapp hB e32 O4
 have O4 := P4
 obtain ⟨J83, ⟨m129, hJ128⟩, hS84⟩ := H
 refine ⟨fun m_ z_ w_ => ∃ (xs77 : List Int) (xs80 : List Bool) (A78 : OA) (c79 : Nat), z_ = ((A78, xs77.length, c79), ()) ∧ J83 m_ (xs77, xs80, ()) ∧ Ext w w_ ∧ Own el3 w_ w.heap.size A78 c79 xs77 ∧ Own el4 w_ w.heap.size (some (bx g21)) ((wrap .i64 ((xs0.length : Int) + 1)).toNat) xs80 ∧ ((wrap .i64 ((xs0.length : Int) + 1)).toNat) = xs80.length, ⟨m129, (([] : List Int) ++ xs1), (List.replicate ((wrap .i64 ((xs0.length : Int) + 1)).toNat) (default : Bool)), A29, c30, rfl, hJ128, hB, O4, O3, (by first | rfl | assumption | omega | (simp; done) | (simp; omega) | (simp; assumption))⟩, ?_⟩
 rintro m82 _ w86 ⟨xs77, xs80, A78, c79, rfl, hJ130, hB, O8, O3, hn81⟩
 have H := hS84 m82 _ hJ130
 clear hS84 hJ130
 try dsimp only at H ⊢
 refine brc H (fun h H => ?_) fun h H => ?_
 ·obtain ⟨⟨h0_90, h1_91⟩, H⟩ := H
  obtain ⟨a88, ha89, hat87⟩ := Row.at O8.row h0_90 h1_91
  refine ⟨h0_90, h1_91, a88, ha89, _, (hat87 0 _ rfl), ?_⟩
  obtain ⟨⟨hl92, hl93⟩, H⟩ := H
  refine and_assoc.1 ⟨⟨hl92, hl93⟩, ?_⟩
  rw [show (xs77.length - ((1 : Int).toNat)) = ((List.drop ((1 : Int).toNat) xs77)).length from by first | rfl | (simp; done) | (simp; omega)]
  have O9 := (O8.drop (l := ((1 : Int).toNat)) (by first | omega | (simp; done) | (simp; omega)))
  obtain ⟨⟨h0_97, h1_98⟩, H⟩ := H
  obtain ⟨a95, ha96, hat94⟩ := Row.at O3.row h0_97 h1_98
  refine ⟨h0_97, (by first | exact h1_98 | omega | (simp at h1_98 ⊢; omega)), a95, ha96, _, (hat94 0 _ rfl), ?_⟩
  refine brc H (fun h H => ?_) fun h H => ?_
  ·obtain ⟨m99, hm100, hJ101⟩ := H
   exact ⟨m99, hm100, _, xs80, _, _, rfl, hJ101, hB, O9, O3, (by first | rfl | assumption | omega | (simp; done) | (simp; omega) | (simp; assumption))⟩
  obtain ⟨⟨h0_105, h1_106⟩, H⟩ := H
  obtain ⟨a103, ha104, hat102⟩ := Row.at O3.row h0_105 h1_106
  refine ⟨h0_105, (by first | exact h1_106 | omega | (simp at h1_106 ⊢; omega)), a103, ha104, ?_⟩
  refine Own.stA O3 ha104 h0_105 h1_106 0 true (fun w107 P3 e108 hb109 => ?_)
  have O8_ := O8.chg e108 (((Own.qaq O8 O3 (by decide))).left ha104)
  have O9 := O9.chg e108 (((qh6 (Own.qaq O8 O3 (by decide)))).left ha104)
  have hB := echg hB e108 hb109
  obtain ⟨hp112, H⟩ := H
  obtain ⟨r110, hr111, H⟩ := qad H
  refine (qci.con hp112 hr111 (R0.ext hB) hc0).mono ?_
  rintro _ w113 ⟨A115, c116, rfl, P10, e114⟩
  have O3 := P3.ext e114
  have O8 := O8_.ext e114
  have O9 := O9.ext e114
  have O10 := P10.mono hB.size
  have hB := qa5 hB e114
  refine ⟨A115, r110.length, c116, rfl, ?_⟩
  obtain ⟨hl121, H⟩ := H
  refine appO qdZ O9 O10.row hB.size hl121 (fun A117 c118 w119 P9 e120 => ?_)
  have O3 := O3.app e120 (qh6 (Own.qaq O3 O8 (by decide)).symm).symm
  have hB := eapp hB e120 O9
  have O9 := P9
  obtain ⟨m122, hm123, hJ124⟩ := H
  exact ⟨m122, hm123, _, _, A117, c118, rfl, hJ124, hB, O9, O3, (by first | rfl | assumption | omega | (simp; done) | (simp; omega) | (simp; assumption))⟩
 cases hr.trans H.symm
 exact ⟨(some (bx g21)), ((wrap .i64 ((xs0.length : Int) + 1)).toNat), (by first | rfl | (rw [hn81]; done) | (simp; done) | (simp; omega) | (simp [*]; done)), (by first | exact O3 | (simp only [bC, wC, List.length_set]; exact O3) | (rw [← hn81]; exact O3)), hB⟩
def qaH.vc (A0 : OA) (n0 c0 : Nat) (x1 : Int) (w : World) (K : VK) : Prop :=
  Cl 250 #[(sv A0 n0 c0), (iv x1)] w fun v21 w22 => (∃ (b23 : Bool), v21 = (.bool b23) ∧ qa1 b23 (Run Tryz.prog (Instr.buildSlice 24 1 #[(0, (iv x1))]) w22 fun v24 w25 => ∃ (A26 : OA) (n27 c28 : Nat), v24 = .slice A26 n27 c28 ∧ Cl 251 #[(sv A0 n0 c0), (sv A26 n27 c28)] w25 fun v29 w30 => (∃ (A31 : OA) (n32 c33 : Nat), v29 = (sv A31 n32 c33) ∧ (idx ((n0 : Nat) : Int) n32 A31 fun a34 => ∃ (b35 : Bool), w30.cell? ((a34.add ((((n0 : Nat) : Int).toNat) * 1)).add 0) = some (.bool b35) ∧ K (.bool b35) w30))) (K (.bool false) w22))

def qaH.ann : Ann := (.seq .l (.seq .l .l))

theorem qaH.con {xs0 : List D.Ins} {A0 : OA} {c0 : Nat} {x1 : Int} {r : Bool} {w : World} (hp : M.qdT xs0 x1) (hr : r = M.qaH xs0 x1) (R0 : Row el84 w A0 xs0) (hc0 : xs0.length ≤ c0) :
    Cl 242 #[(sv A0 xs0.length c0), (iv x1)] w (fun v_ w_ => v_ = (.bool r) ∧ Ext w w_) := by
 have H := wp.qaH.math xs0 x1 hp
 have hB := Ext.refl w
 refine begK mixed Tryz.f242 ann (vc A0 xs0.length c0 x1) ?_
 unfold vc
 unfold wp.qaH at H
 obtain ⟨hp23, H⟩ := H
 obtain ⟨r21, hr22, H⟩ := qad H
 refine (qdK.con hp23 hr22 (R0.ext hB) hc0).mono ?_
 rintro _ w24 ⟨rfl, e25⟩
 have hB := qa5 hB e25
 refine ⟨r21, rfl, ?_⟩
 refine brc H (fun h H => ?_) fun h H => ?_
 ·refine qap el3 ([x1] : List Int) (fun _ => by kernel_rfl) rfl (fun A26 w27 P2 e28 => ?_)
  have O2 := P2.mono hB.size
  have hB := qa5 hB e28
  obtain ⟨hp31, H⟩ := H
  obtain ⟨r29, hr30, H⟩ := qad H
  refine (cllA (qcG.con hp31 hr30 (R0.ext hB) hc0 O2.row O2.le)).mono ?_
  rintro _ w32 ⟨A34, c35, rfl, P3, e33⟩
  have O3 := P3.mono hB.size
  have hB := qa5 hB e33
  refine ⟨A34, r29.length, c35, rfl, ?_⟩
  obtain ⟨⟨h0_39, h1_40⟩, H⟩ := H
  obtain ⟨a37, ha38, hat36⟩ := Row.at O3.row h0_39 h1_40
  refine ⟨h0_39, h1_40, a37, ha38, _, (hat36 0 _ rfl), ?_⟩
  cases hr.trans H.symm
  exact ⟨rfl, hB⟩
 cases hr.trans H.symm
 exact ⟨rfl, hB⟩
def qcF.vc (A0 : OA) (n0 c0 : Nat) (x1 x2 : Int) (w : World) (K : VK) : Prop :=
  qa1 (x1 == x2) (K (.bool true) w) (qge Tryz.prog 149 (wrap .i64 (((n0 : Nat) : Int) + 1)) (wrap .i64 (((n0 : Nat) : Int) + 1)) w fun g21 w22 => Run Tryz.prog (Instr.buildSlice 24 1 #[(0, (iv x1))]) w22 fun v23 w24 => ∃ (A25 : OA) (n26 c27 : Nat), v23 = .slice A25 n26 c27 ∧ qdA (σ := (OA × Nat × Nat) × Unit) (fun z28 w29 next30 => qa1 (decide (((z28.1.2.1 : Nat) : Int) > 0)) ((idx 0 z28.1.2.1 z28.1.1 fun a31 => ldI w29 ((a31.add (((0 : Int).toNat) * 1)).add 0) fun n32 => ((0 : Int) ≤ 1 ∧ 1 ≤ ((z28.1.2.1 : Nat) : Int) ∧ (idx n32 ((wrap .i64 (((n0 : Nat) : Int) + 1)).toNat) ((some (bx g21))) fun a34 => ∃ (b35 : Bool), w29.cell? ((a34.add ((n32.toNat) * 1)).add 0) = some (.bool b35) ∧ qa1 b35 (next30 (((if z28.1.2.2 = ((1 : Int).toNat) then z28.1.1 else z28.1.1.map (·.add (((1 : Int).toNat) * szOf Tryz.prog 3))), (z28.1.2.1 - ((1 : Int).toNat)), (z28.1.2.2 - ((1 : Int).toNat))), ()) w29) (qa1 (n32 == x2) (next30 (((if z28.1.2.2 = ((1 : Int).toNat) then z28.1.1 else z28.1.1.map (·.add (((1 : Int).toNat) * szOf Tryz.prog 3))), (z28.1.2.1 - ((1 : Int).toNat)), (z28.1.2.2 - ((1 : Int).toNat))), ()) w29) (qa1 (n32 == ((n0 : Nat) : Int)) (K (.bool false) w29) ((idx n32 ((wrap .i64 (((n0 : Nat) : Int) + 1)).toNat) ((some (bx g21))) fun a36 => qa7 (a36.add ((n32.toNat) * 1)) [(.bool true)] 0 w29 fun w37 => Cl 259 #[(sv A0 n0 c0), (iv n32)] w37 fun v38 w39 => (∃ (A40 : OA) (n41 c42 : Nat), v38 = (sv A40 n41 c42) ∧ Run Tryz.prog (Builtin.append_ #[24, 24] 24 #[(sv (if z28.1.2.2 = ((1 : Int).toNat) then z28.1.1 else z28.1.1.map (·.add (((1 : Int).toNat) * szOf Tryz.prog 3))) (z28.1.2.1 - ((1 : Int).toNat)) (z28.1.2.2 - ((1 : Int).toNat))), (sv A40 n41 c42)]) w39 fun v43 w44 => ∃ (A45 : OA) (n46 c47 : Nat), v43 = .slice A45 n46 c47 ∧ next30 ((A45, n46, c47), ()) w44))))))))) (K (.bool true) w29)) ((A25, n26, c27), ()) w24)

def qcF.ann : Ann := (.seq .l (.seq (.seq .l (.two (.seq .l .l) .l)) (.seq .l (.seq .l (.seq (.one (.loop [(8, .sl)] (.seq (.seq .l (.two .l .l)) (.one (.seq .l (.seq .l (.seq (.seq .l (.two .l .l)) (.seq (.seq .l (.two (.seq .l .l) .l)) (.seq .l .l))))))))) (.seq .l .l))))))

theorem qcF.con {xs0 : List D.Ins} {A0 : OA} {c0 : Nat} {x1 x2 : Int} {r : Bool} {w : World} (hp : M.qeV xs0 x1 x2) (hr : r = M.qcF xs0 x1 x2) (R0 : Row el84 w A0 xs0) (hc0 : xs0.length ≤ c0) :
    Cl 260 #[(sv A0 xs0.length c0), (iv x1), (iv x2)] w (fun v_ w_ => v_ = (.bool r) ∧ Ext w w_) := by
 have H := wp.qcF.math xs0 x1 x2 hp
 have hB := Ext.refl w
 refine begK mixed Tryz.f260 ann (vc A0 xs0.length c0 x1 x2) ?_
 unfold vc
 unfold wp.qcF at H
 refine brc H (fun h H => ?_) fun h H => ?_
 ·cases hr.trans H.symm
  exact ⟨rfl, hB⟩
 obtain ⟨⟨h0_24, h1_25⟩, H⟩ := H
 refine qfZ qnh h0_24 h1_25 (fun g21 w22 P2 e23 => ?_)
 have O2 := P2.mono hB.size
 have hB := qa5 hB e23
 refine qap el3 ([x1] : List Int) (fun _ => by kernel_rfl) rfl (fun A26 w27 P3 e28 => ?_)
 have O2 := O2.ext e28
 have O3 := P3.mono hB.size
 have hB := qa5 hB e28
 obtain ⟨J81, ⟨m132, hJ131⟩, hS82⟩ := H
 refine ⟨fun m_ z_ w_ => ∃ (xs75 : List Int) (xs78 : List Bool) (A76 : OA) (c77 : Nat), z_ = ((A76, xs75.length, c77), ()) ∧ J81 m_ (xs75, xs78, ()) ∧ Ext w w_ ∧ Own el3 w_ w.heap.size A76 c77 xs75 ∧ Own el4 w_ w.heap.size (some (bx g21)) ((wrap .i64 ((xs0.length : Int) + 1)).toNat) xs78 ∧ ((wrap .i64 ((xs0.length : Int) + 1)).toNat) = xs78.length, ⟨m132, ([x1] : List Int), (List.replicate ((wrap .i64 ((xs0.length : Int) + 1)).toNat) (default : Bool)), A26, 1, rfl, hJ131, hB, O3, O2, (by first | rfl | assumption | omega | (simp; done) | (simp; omega) | (simp; assumption))⟩, ?_⟩
 rintro m80 _ w84 ⟨xs75, xs78, A76, c77, rfl, hJ133, hB, O7, O2, hn79⟩
 have H := hS82 m80 _ hJ133
 clear hS82 hJ133
 try dsimp only at H ⊢
 refine brc H (fun h H => ?_) fun h H => ?_
 ·obtain ⟨⟨h0_88, h1_89⟩, H⟩ := H
  obtain ⟨a86, ha87, hat85⟩ := Row.at O7.row h0_88 h1_89
  refine ⟨h0_88, h1_89, a86, ha87, _, (hat85 0 _ rfl), ?_⟩
  obtain ⟨⟨hl90, hl91⟩, H⟩ := H
  refine and_assoc.1 ⟨⟨hl90, hl91⟩, ?_⟩
  rw [show (xs75.length - ((1 : Int).toNat)) = ((List.drop ((1 : Int).toNat) xs75)).length from by first | rfl | (simp; done) | (simp; omega)]
  have O8 := (O7.drop (l := ((1 : Int).toNat)) (by first | omega | (simp; done) | (simp; omega)))
  obtain ⟨⟨h0_95, h1_96⟩, H⟩ := H
  obtain ⟨a93, ha94, hat92⟩ := Row.at O2.row h0_95 h1_96
  refine ⟨h0_95, (by first | exact h1_96 | omega | (simp at h1_96 ⊢; omega)), a93, ha94, _, (hat92 0 _ rfl), ?_⟩
  refine brc H (fun h H => ?_) fun h H => ?_
  ·obtain ⟨m97, hm98, hJ99⟩ := H
   exact ⟨m97, hm98, _, xs78, _, _, rfl, hJ99, hB, O8, O2, (by first | rfl | assumption | omega | (simp; done) | (simp; omega) | (simp; assumption))⟩
  refine brc H (fun h H => ?_) fun h H => ?_
  ·obtain ⟨m100, hm101, hJ102⟩ := H
   exact ⟨m100, hm101, _, xs78, _, _, rfl, hJ102, hB, O8, O2, (by first | rfl | assumption | omega | (simp; done) | (simp; omega) | (simp; assumption))⟩
  refine brc H (fun h H => ?_) fun h H => ?_
  ·cases hr.trans H.symm
   exact ⟨rfl, hB⟩
  obtain ⟨⟨h0_106, h1_107⟩, H⟩ := H
  obtain ⟨a104, ha105, hat103⟩ := Row.at O2.row h0_106 h1_107
  refine ⟨h0_106, (by first | exact h1_107 | omega | (simp at h1_107 ⊢; omega)), a104, ha105, ?_⟩
  refine Own.stA O2 ha105 h0_106 h1_107 0 true (fun w108 P2 e109 hb110 => ?_)
  have O7_ := O7.chg e109 (((Own.qaq O7 O2 (by decide))).left ha105)
  have O8 := O8.chg e109 (((qh6 (Own.qaq O7 O2 (by decide)))).left ha105)
  have hB := echg hB e109 hb110
  obtain ⟨hp113, H⟩ := H
  obtain ⟨r111, hr112, H⟩ := qad H
  refine (qci.con hp113 hr112 (R0.ext hB) hc0).mono ?_
  rintro _ w114 ⟨A116, c117, rfl, P9, e115⟩
  have O2 := P2.ext e115
  have O7 := O7_.ext e115
  have O8 := O8.ext e115
  have O9 := P9.mono hB.size
  have hB := qa5 hB e115
  refine ⟨A116, r111.length, c117, rfl, ?_⟩
  obtain ⟨hl122, H⟩ := H
  refine appO qdZ O8 O9.row hB.size hl122 (fun A118 c119 w120 P8 e121 => ?_)
  have O2 := O2.app e121 (qh6 (Own.qaq O2 O7 (by decide)).symm).symm
  have hB := eapp hB e121 O8
  have O8 := P8
  obtain ⟨m123, hm124, hJ125⟩ := H
  exact ⟨m123, hm124, _, _, A118, c119, rfl, hJ125, hB, O8, O2, (by first | rfl | assumption | omega | (simp; done) | (simp; omega) | (simp; assumption))⟩
 cases hr.trans H.symm
 exact ⟨rfl, hB⟩
def qco.vc (A0 : OA) (n0 c0 : Nat) (x1 : Int) (w : World) (K : VK) : Prop :=
  Run Tryz.prog (Instr.buildSlice 24 0 #[]) w fun v21 w22 => ∃ (A23 : OA) (n24 c25 : Nat), v21 = .slice A23 n24 c25 ∧ Cl 242 #[(sv A0 n0 c0), (iv x1)] w22 fun v26 w27 => (∃ (b28 : Bool), v26 = (.bool b28) ∧ qa1 (!b28) (K (sv A23 n24 c25) w27) (qdA (σ := (OA × Nat × Nat) × Int × Unit) (fun z29 w30 next31 => qa1 (decide (z29.2.1 ≤ ((n0 : Nat) : Int))) (Cl 260 #[(sv A0 n0 c0), (iv x1), (iv z29.2.1)] w30 fun v32 w33 => (∃ (b34 : Bool), v32 = (.bool b34) ∧ qa1 b34 (Run Tryz.prog (Instr.buildSlice 24 1 #[(0, (iv z29.2.1))]) w33 fun v35 w36 => ∃ (A37 : OA) (n38 c39 : Nat), v35 = .slice A37 n38 c39 ∧ Run Tryz.prog (Builtin.append_ #[24, 24] 24 #[(sv z29.1.1 z29.1.2.1 z29.1.2.2), (sv A37 n38 c39)]) w36 fun v40 w41 => ∃ (A42 : OA) (n43 c44 : Nat), v40 = .slice A42 n43 c44 ∧ next31 ((A42, n43, c44), (wrap .i64 (z29.2.1 + 1)), ()) w41) (next31 ((z29.1.1, z29.1.2.1, z29.1.2.2), (wrap .i64 (z29.2.1 + 1)), ()) w33))) (K (sv z29.1.1 z29.1.2.1 z29.1.2.2) w30)) ((A23, n24, c25), 0, ()) w27))

def qco.ann : Ann := (.seq .l (.seq .l (.seq (.seq .l (.two (.seq .l .l) .l)) (.seq (.seq .l (.one (.loop [(5, .sl), (6, .int .i64)] (.seq (.seq .l (.two .l .l)) (.seq (.one (.seq .l (.two .l .l))) .l))))) (.seq .l .l)))))

theorem qco.con {xs0 : List D.Ins} {A0 : OA} {c0 : Nat} {x1 : Int} {r : List Int} {w : World} (hp : M.qg7 xs0 x1) (hr : r = M.qco xs0 x1) (R0 : Row el84 w A0 xs0) (hc0 : xs0.length ≤ c0) :
    Cl 254 #[(sv A0 xs0.length c0), (iv x1)] w (fun v_ w_ => ∃ (A0_ : OA) (c0_ : Nat), v_ = (sv A0_ r.length c0_) ∧ Own el3 w_ w.heap.size A0_ c0_ r ∧ Ext w w_) := by
 have H := wp.qco.math xs0 x1 hp
 have hB := Ext.refl w
 refine begK mixed Tryz.f254 ann (vc A0 xs0.length c0 x1) ?_
 unfold vc
 unfold wp.qco at H
 refine qap el3 ([] : List Int) (fun _ => by kernel_rfl) rfl (fun A21 w22 P2 e23 => ?_)
 have O2 := P2.mono hB.size
 have hB := qa5 hB e23
 obtain ⟨hp26, H⟩ := H
 obtain ⟨r24, hr25, H⟩ := qad H
 refine (qaH.con hp26 hr25 (R0.ext hB) hc0).mono ?_
 rintro _ w27 ⟨rfl, e28⟩
 have O2 := O2.ext e28
 have hB := qa5 hB e28
 refine ⟨r24, rfl, ?_⟩
 refine brc H (fun h H => ?_) fun h H => ?_
 ·cases hr.trans H.symm
  exact ⟨A21, 0, (by first | rfl | (simp; done) | (simp; omega) | (simp [*]; done)), (by first | exact O2 | (simp only [bC, wC, List.length_set]; exact O2)), hB⟩
 obtain ⟨J34, ⟨m61, hJ60⟩, hS35⟩ := H
 refine ⟨fun m_ z_ w_ => ∃ (xs29 : List Int) (i32 : Int) (A30 : OA) (c31 : Nat), z_ = ((A30, xs29.length, c31), i32, ()) ∧ J34 m_ (xs29, i32, ()) ∧ Ext w w_ ∧ Own el3 w_ w.heap.size A30 c31 xs29, ⟨m61, ([] : List Int), 0, A21, 0, rfl, hJ60, hB, O2⟩, ?_⟩
 rintro m33 _ w37 ⟨xs29, i32, A30, c31, rfl, hJ62, hB, O3⟩
 have H := hS35 m33 _ hJ62
 clear hS35 hJ62
 try dsimp only at H ⊢
 refine brc H (fun h H => ?_) fun h H => ?_
 ·obtain ⟨hp40, H⟩ := H
  obtain ⟨r38, hr39, H⟩ := qad H
  refine (qcF.con hp40 hr39 (R0.ext hB) hc0).mono ?_
  rintro _ w41 ⟨rfl, e42⟩
  have O3 := O3.ext e42
  have hB := qa5 hB e42
  refine ⟨r38, rfl, ?_⟩
  refine brc H (fun h H => ?_) fun h H => ?_
  ·refine qap el3 ([i32] : List Int) (fun _ => by kernel_rfl) rfl (fun A43 w44 P4 e45 => ?_)
   have O3 := O3.ext e45
   have O4 := P4.mono hB.size
   have hB := qa5 hB e45
   obtain ⟨hl50, H⟩ := H
   refine appO qdZ O3 O4.row hB.size hl50 (fun A46 c47 w48 P3 e49 => ?_)
   have hB := eapp hB e49 O3
   have O3 := P3
   obtain ⟨m51, hm52, hJ53⟩ := H
   exact ⟨m51, hm52, _, _, A46, c47, rfl, hJ53, hB, O3⟩
  obtain ⟨m54, hm55, hJ56⟩ := H
  exact ⟨m54, hm55, xs29, _, A30, c31, rfl, hJ56, hB, O3⟩
 cases hr.trans H.symm
 exact ⟨A30, c31, rfl, O3, hB⟩
def qdd.vc (A0 : OA) (n0 c0 : Nat) (A1 : OA) (n1 c1 : Nat) (w : World) (K : VK) : Prop :=
  qdA (σ := Int × Unit) (fun z21 w22 next23 => qa1 (decide (z21.1 < ((n1 : Nat) : Int))) (qdA (σ := Bool × Int × Unit) (fun z24 w25 next26 => qa1 (decide (z24.2.1 < ((n1 : Nat) : Int))) ((∃ M27 : Nat → Prop, qa1 z24.1 ((idx z21.1 n1 A1 fun a28 => ldIM M27 w25 (a28.add ((z21.1.toNat) * 1)) 0 fun n29 => (idx z24.2.1 n1 A1 fun a30 => ldIM M27 w25 (a30.add ((z24.2.1.toNat) * 1)) 0 fun n31 => Cl 260 #[(sv A0 n0 c0), (iv n29), (iv n31)] w25.drew fun v32 w33 => (∃ (b34 : Bool), v32 = (.bool b34) ∧ qac M27 w25 w33 ∧ next26 (b34, (wrap .i64 (z24.2.1 + 1)), ()) w33)))) (next26 (false, (wrap .i64 (z24.2.1 + 1)), ()) w25.drew))) (qa1 z24.1 ((idx z21.1 n1 A1 fun a35 => ldI w25 ((a35.add ((z21.1.toNat) * 1)).add 0) fun n36 => K (iv n36) w25)) (next23 ((wrap .i64 (z21.1 + 1)), ()) w25))) (true, 0, ()) w22) (K (iv (-1)) w22)) (0, ()) w

def qdd.ann : Ann := (.seq .l (.seq (.seq .l (.one (.loop [(5, .int .i64)] (.seq (.seq .l (.two .l .l)) (.seq (.one (.seq .l (.seq (.seq .l (.one (.loop [(6, .bool), (7, .int .i64)] (.seq (.seq .l (.two .l .l)) (.seq (.one .l) .l))))) (.seq .l (.two (.seq .l .l) .l))))) .l))))) (.seq .l .l)))

theorem qdd.con {xs0 : List D.Ins} {A0 A1 : OA} {c0 c1 : Nat} {xs1 : List Int} {r : Int} {w : World} (hp : M.qg2 xs0 xs1) (hr : r = M.qdd xs0 xs1) (R0 : Row el84 w A0 xs0) (hc0 : xs0.length ≤ c0) (R1 : Row el3 w A1 xs1) (hc1 : xs1.length ≤ c1) :
    Cl 252 #[(sv A0 xs0.length c0), (sv A1 xs1.length c1)] w (fun v_ w_ => v_ = (iv r) ∧ Ext w w_) := by
 have H := wp.qdd.math xs0 xs1 hp
 have hB := Ext.refl w
 refine begK mixed Tryz.f252 ann (vc A0 xs0.length c0 A1 xs1.length c1) ?_
 unfold vc
 unfold wp.qdd at H
 obtain ⟨J23, ⟨m74, hJ73⟩, hS24⟩ := H
 refine ⟨fun m_ z_ w_ => ∃ (i21 : Int), z_ = (i21, ()) ∧ J23 m_ (i21, ()) ∧ Ext w w_, ⟨m74, 0, rfl, hJ73, hB⟩, ?_⟩
 rintro m22 _ w26 ⟨i21, rfl, hJ75, hB⟩
 have H := hS24 m22 _ hJ75
 clear hS24 hJ75
 try dsimp only at H ⊢
 refine brc H (fun h H => ?_) fun h H => ?_
 ·obtain ⟨J30, ⟨m69, hJ68⟩, hS31⟩ := H
  refine ⟨fun m_ z_ w_ => ∃ (b27 : Bool) (i28 : Int), z_ = (b27, i28, ()) ∧ J30 m_ (b27, i28, ()) ∧ Ext w w_, ⟨m69, true, 0, rfl, hJ68, hB⟩, ?_⟩
  rintro m29 _ w33 ⟨b27, i28, rfl, hJ70, hB⟩
  have H := hS31 m29 _ hJ70
  clear hS31 hJ70
  try dsimp only at H ⊢
  refine brc H (fun h H => ?_) fun h H => ?_
  ·refine ⟨(fun _ => False), ?_⟩
   refine brc H (fun h H => ?_) fun h H => ?_
   ·obtain ⟨⟨h0_38, h1_39⟩, H⟩ := H
    obtain ⟨a36, ha37, hat35⟩ := Row.at (R1.ext hB) h0_38 h1_39
    refine ⟨h0_38, h1_39, a36, ha37, _, ⟨(fun h_ => h_), (hat35 0 _ rfl)⟩, ?_⟩
    obtain ⟨⟨h0_43, h1_44⟩, H⟩ := H
    obtain ⟨a41, ha42, hat40⟩ := Row.at (R1.ext hB) h0_43 h1_44
    refine ⟨h0_43, h1_44, a41, ha42, _, ⟨(fun h_ => h_), (hat40 0 _ rfl)⟩, ?_⟩
    have hB := qa5 hB (Ext.drew _)
    have hS34 := (Chg.refl (fun _ => False) w33).then (Ext.drew _)
    obtain ⟨hp47, H⟩ := H
    obtain ⟨r45, hr46, H⟩ := qad H
    refine (qcF.con hp47 hr46 (R0.ext hB) hc0).mono ?_
    rintro _ w48 ⟨rfl, e49⟩
    have hB := qa5 hB e49
    have hS34 := hS34.then e49
    refine ⟨r45, rfl, qa2 hS34, ?_⟩
    obtain ⟨m50, hm51, hJ52⟩ := H
    exact ⟨m50, hm51, r45, _, rfl, hJ52, hB⟩
   have hB := qa5 hB (Ext.drew _)
   obtain ⟨m53, hm54, hJ55⟩ := H
   exact ⟨m53, hm54, _, _, rfl, hJ55, hB⟩
  refine brc H (fun h H => ?_) fun h H => ?_
  ·obtain ⟨⟨h0_60, h1_61⟩, H⟩ := H
   obtain ⟨a58, ha59, hat57⟩ := Row.at (R1.ext hB) h0_60 h1_61
   refine ⟨h0_60, h1_61, a58, ha59, _, (hat57 0 _ rfl), ?_⟩
   cases hr.trans H.symm
   exact ⟨rfl, hB⟩
  obtain ⟨m62, hm63, hJ64⟩ := H
  exact ⟨m62, hm63, _, rfl, hJ64, hB⟩
 cases hr.trans H.symm
 exact ⟨rfl, hB⟩
def qc7.vc (A0 : OA) (n0 c0 : Nat) (x1 : Int) (w : World) (K : VK) : Prop :=
  Cl 254 #[(sv A0 n0 c0), (iv x1)] w fun v21 w22 => (∃ (A23 : OA) (n24 c25 : Nat), v21 = (sv A23 n24 c25) ∧ Cl 253 #[(sv A23 n24 c25), (iv x1)] w22 fun v26 w27 => (∃ (A28 : OA) (n29 c30 : Nat), v26 = (sv A28 n29 c30) ∧ Cl 252 #[(sv A0 n0 c0), (sv A28 n29 c30)] w27 fun v31 w32 => (∃ (n33 : Int), v31 = (iv n33) ∧ K (iv n33) w32)))

def qc7.ann : Ann := (.seq .l (.seq .l .l))

theorem qc7.con {xs0 : List D.Ins} {A0 : OA} {c0 : Nat} {x1 r : Int} {w : World} (hp : M.qfe xs0 x1) (hr : r = M.qc7 xs0 x1) (R0 : Row el84 w A0 xs0) (hc0 : xs0.length ≤ c0) :
    Cl 243 #[(sv A0 xs0.length c0), (iv x1)] w (fun v_ w_ => v_ = (iv r) ∧ Ext w w_) := by
 have H := wp.qc7.math xs0 x1 hp
 have hB := Ext.refl w
 refine begK mixed Tryz.f243 ann (vc A0 xs0.length c0 x1) ?_
 unfold vc
 unfold wp.qc7 at H
 obtain ⟨hp23, H⟩ := H
 obtain ⟨r21, hr22, H⟩ := qad H
 refine (qco.con hp23 hr22 (R0.ext hB) hc0).mono ?_
 rintro _ w24 ⟨A26, c27, rfl, P2, e25⟩
 have O2 := P2.mono hB.size
 have hB := qa5 hB e25
 refine ⟨A26, r21.length, c27, rfl, ?_⟩
 obtain ⟨hp30, H⟩ := H
 obtain ⟨r28, hr29, H⟩ := qad H
 refine (qcS.con hp30 hr29 O2.row O2.le).mono ?_
 rintro _ w31 ⟨A33, c34, rfl, P3, e32⟩
 have O3 := P3.mono hB.size
 have hB := qa5 hB e32
 refine ⟨A33, r28.length, c34, rfl, ?_⟩
 obtain ⟨hp37, H⟩ := H
 obtain ⟨r35, hr36, H⟩ := qad H
 refine (qdd.con hp37 hr36 (R0.ext hB) hc0 O3.row O3.le).mono ?_
 rintro _ w38 ⟨rfl, e39⟩
 have hB := qa5 hB e39
 refine ⟨r35, rfl, ?_⟩
 cases hr.trans H.symm
 exact ⟨rfl, hB⟩
def qcB.vc (A0 : OA) (n0 c0 : Nat) (x1 : Int) (w : World) (K : VK) : Prop :=
  Cl 242 #[(sv A0 n0 c0), (iv (wrap .i64 (x1 + 1)))] w fun v21 w22 => (∃ (b23 : Bool), v21 = (.bool b23) ∧ qa1 (!b23) (K (iv ((n0 : Nat) : Int)) w22) ((idx x1 n0 A0 fun a24 => ldI w22 (((a24.add ((x1.toNat) * 4)).add 2).add 0) fun n25 => Cl 242 #[(sv A0 n0 c0), (iv n25)] w22 fun v26 w27 => (∃ (b28 : Bool), v26 = (.bool b28) ∧ qa1 (!b28) (K (iv ((n0 : Nat) : Int)) w27) (Cl 243 #[(sv A0 n0 c0), (iv x1)] w27 fun v29 w30 => (∃ (n31 : Int), v29 = (iv n31) ∧ K (iv n31) w30))))))

def qcB.ann : Ann := (.seq .l (.seq (.seq .l (.two (.seq .l .l) .l)) (.seq .l .l)))

theorem qcB.con {xs0 : List D.Ins} {A0 : OA} {c0 : Nat} {x1 r : Int} {w : World} (hp : M.qgq xs0 x1) (hr : r = M.qcB xs0 x1) (R0 : Row el84 w A0 xs0) (hc0 : xs0.length ≤ c0) :
    Cl 222 #[(sv A0 xs0.length c0), (iv x1)] w (fun v_ w_ => v_ = (iv r) ∧ Ext w w_) := by
 have H := wp.qcB.math xs0 x1 hp
 have hB := Ext.refl w
 refine begK mixed Tryz.f222 ann (vc A0 xs0.length c0 x1) ?_
 unfold vc
 unfold wp.qcB at H
 obtain ⟨hp23, H⟩ := H
 obtain ⟨r21, hr22, H⟩ := qad H
 refine (qaH.con hp23 hr22 (R0.ext hB) hc0).mono ?_
 rintro _ w24 ⟨rfl, e25⟩
 have hB := qa5 hB e25
 refine ⟨r21, rfl, ?_⟩
 refine brc H (fun h H => ?_) fun h H => ?_
 ·cases hr.trans H.symm
  exact ⟨rfl, hB⟩
 obtain ⟨⟨h0_29, h1_30⟩, H⟩ := H
 obtain ⟨a27, ha28, hat26⟩ := Row.at (R0.ext hB) h0_29 h1_30
 refine ⟨h0_29, h1_30, a27, ha28, _, (hat26 2 _ rfl), ?_⟩
 obtain ⟨hp33, H⟩ := H
 obtain ⟨r31, hr32, H⟩ := qad H
 refine (qaH.con hp33 hr32 (R0.ext hB) hc0).mono ?_
 rintro _ w34 ⟨rfl, e35⟩
 have hB := qa5 hB e35
 refine ⟨r31, rfl, ?_⟩
 refine brc H (fun h H => ?_) fun h H => ?_
 ·cases hr.trans H.symm
  exact ⟨rfl, hB⟩
 obtain ⟨hp38, H⟩ := H
 obtain ⟨r36, hr37, H⟩ := qad H
 refine (qc7.con hp38 hr37 (R0.ext hB) hc0).mono ?_
 rintro _ w39 ⟨rfl, e40⟩
 have hB := qa5 hB e40
 refine ⟨r36, rfl, ?_⟩
 cases hr.trans H.symm
 exact ⟨rfl, hB⟩
def cmp_isNaN_int.vc (x0 : Int) (w : World) (K : VK) : Prop :=
  K (.bool (x0 != x0)) w

def cmp_isNaN_int.ann : Ann := (.seq .l (.seq .l .l))

theorem cmp_isNaN_int.con {x0 : Int} {r : Bool} {w : World} (hr : r = M.cmp_isNaN_int x0)  :
    Cl 158 #[(iv x0)] w (fun v_ w_ => v_ = (.bool r) ∧ Ext w w_) := by
 have H := wp.cmp_isNaN_int.math x0
 have hB := Ext.refl w
 refine begK mixed Tryz.f158 ann (vc x0) ?_
 unfold vc
 unfold wp.cmp_isNaN_int at H
 cases hr.trans H.symm
 exact ⟨rfl, hB⟩
def cmp_Less_int.vc (x0 x1 : Int) (w : World) (K : VK) : Prop :=
  Cl 158 #[(iv x0)] w fun v21 w22 => (∃ (b23 : Bool), v21 = (.bool b23) ∧ qa1 b23 (Cl 158 #[(iv x1)] w22 fun v24 w25 => (∃ (b26 : Bool), v24 = (.bool b26) ∧ qa1 (!b26) (K (.bool true) w25) (K (.bool (decide (x0 < x1))) w25))) (K (.bool (decide (x0 < x1))) w22))

def cmp_Less_int.ann : Ann := (.seq .l (.seq .l .l))

theorem cmp_Less_int.con {x0 x1 : Int} {r : Bool} {w : World} (hr : r = M.cmp_Less_int x0 x1)  :
    Cl 235 #[(iv x0), (iv x1)] w (fun v_ w_ => v_ = (.bool r) ∧ Ext w w_) := by
 have H := wp.cmp_Less_int.math x0 x1
 refine begK mixed Tryz.f235 ann (vc x0 x1) ?_
 unfold vc
 unfold wp.cmp_Less_int at H
 obtain ⟨r21, hr22, H⟩ := qad H
 refine (cmp_isNaN_int.con hr22 ).mono ?_
 rintro _ w24 ⟨rfl, e25⟩
 have hB := qa5 (Ext.refl w) e25
 refine ⟨r21, rfl, ?_⟩
 refine brc H (fun h H => ?_) fun h H => ?_
 ·obtain ⟨r26, hr27, H⟩ := qad H
  refine (cmp_isNaN_int.con hr27 ).mono ?_
  rintro _ w29 ⟨rfl, e30⟩
  have hB := qa5 hB e30
  refine ⟨r26, rfl, ?_⟩
  refine brc H (fun h H => ?_) fun h H => ?_
  ·cases hr.trans H.symm
   exact ⟨rfl, hB⟩
  cases hr.trans H.symm
  exact ⟨rfl, hB⟩
 cases hr.trans H.symm
 exact ⟨rfl, hB⟩
def qat.vc (A0 : OA) (n0 c0 : Nat) (x1 x2 : Int) (w : World) (K : VK) : Prop :=
  qdA (σ := Int × Unit) (fun z21 w22 next23 => qa1 (decide (z21.1 < x2)) (qdA (σ := Int × Unit) (fun z24 w25 next26 => qfL (σ := Unit) (fun J27 => qa1 (decide (z24.1 > x1)) ((idx z24.1 n0 A0 fun a28 => (idx (wrap .i64 (z24.1 - 1)) n0 A0 fun a29 => ((∃ (n30 : Int), w25.drew.cell? ((a28.add ((z24.1.toNat) * 1)).add 0) = some (iv n30) ∧ ((∃ (n31 : Int), w25.drew.cell? ((a29.add (((wrap .i64 (z24.1 - 1)).toNat) * 1)).add 0) = some (iv n31) ∧ ((Cl 235 #[(iv n30), (iv n31)] w25.drew fun v32 w33 => (∃ (b34 : Bool), v32 = (.bool b34) ∧ qa1 b34 (J27 () w33) (next23 ((wrap .i64 (z21.1 + 1)), ()) w33))) ∧ True)) ∧ True)) ∧ (∃ (n35 : Int), w25.drew.cell? ((a29.add (((wrap .i64 (z24.1 - 1)).toNat) * 1)).add 0) = some (iv n35) ∧ ((∃ (n36 : Int), w25.drew.cell? ((a28.add ((z24.1.toNat) * 1)).add 0) = some (iv n36) ∧ ((Cl 235 #[(iv n36), (iv n35)] w25.drew fun v37 w38 => (∃ (b39 : Bool), v37 = (.bool b39) ∧ qa1 b39 (J27 () w38) (next23 ((wrap .i64 (z21.1 + 1)), ()) w38))) ∧ True)) ∧ True)) ∧ True)))) (((((((next23 ((wrap .i64 (z21.1 + 1)), ()) w25.drew) ∧ True)) ∧ True)) ∧ (((((next23 ((wrap .i64 (z21.1 + 1)), ()) w25.drew) ∧ True)) ∧ True)) ∧ True))) fun z40 w41 => (idx (wrap .i64 (z24.1 - 1)) n0 A0 fun a42 => (idx z24.1 n0 A0 fun a43 => ((∃ (n44 : Int), w41.drew.cell? ((a42.add (((wrap .i64 (z24.1 - 1)).toNat) * 1)).add 0) = some (iv n44) ∧ ((∃ (n45 : Int), w41.drew.cell? ((a43.add ((z24.1.toNat) * 1)).add 0) = some (iv n45) ∧ (idx z24.1 n0 A0 fun a46 => ((qa7 (a46.add ((z24.1.toNat) * 1)) [(iv n44)] 0 w41.drew fun w47 => (idx (wrap .i64 (z24.1 - 1)) n0 A0 fun a48 => ((qa7 (a48.add (((wrap .i64 (z24.1 - 1)).toNat) * 1)) [(iv n45)] 0 w47 fun w49 => next26 ((wrap .i64 (z24.1 - 1)), ()) w49) ∧ True))) ∧ True))) ∧ True)) ∧ (∃ (n50 : Int), w41.drew.cell? ((a43.add ((z24.1.toNat) * 1)).add 0) = some (iv n50) ∧ ((∃ (n51 : Int), w41.drew.cell? ((a42.add (((wrap .i64 (z24.1 - 1)).toNat) * 1)).add 0) = some (iv n51) ∧ (idx z24.1 n0 A0 fun a52 => ((qa7 (a52.add ((z24.1.toNat) * 1)) [(iv n51)] 0 w41.drew fun w53 => (idx (wrap .i64 (z24.1 - 1)) n0 A0 fun a54 => ((qa7 (a54.add (((wrap .i64 (z24.1 - 1)).toNat) * 1)) [(iv n50)] 0 w53 fun w55 => next26 ((wrap .i64 (z24.1 - 1)), ()) w55) ∧ True))) ∧ True))) ∧ True)) ∧ True)))) (z21.1, ()) w22) (K (.tuple #[]) w22)) ((wrap .i64 (x1 + 1)), ()) w

def qat.ann : Ann := (.seq .l (.one (.loop [(6, .int .i64)] (.seq (.seq .l (.two .l .l)) (.seq (.one (.seq .l (.one (.loop [(7, .int .i64)] (.cut [] (.seq .each (.two .l .l)) (.seq (.one .each) .l)))))) .l)))))

theorem qat.con {xs0 : List Int} {A0 : OA} {c0 : Nat} {x1 x2 : Int} {r : (List Int)} {w : World} (hp : M.qdh xs0 x1 x2) (hr : r = M.qat xs0 x1 x2) (O1 : Own el3 w 0 A0 c0 xs0) :
    Cl 229 #[(sv A0 xs0.length c0), (iv x1), (iv x2)] w (fun v_ w_ => v_ = (.tuple #[]) ∧ Own el3 w_ 0 A0 c0 r ∧ r.length = xs0.length ∧ Chg (InB A0) w w_) := by
 have H := wp.qat.math xs0 x1 x2 hp
 have hB := Chg.refl (InB A0) w
 refine begK mixed Tryz.f229 ann (vc A0 xs0.length c0 x1 x2) ?_
 unfold vc
 unfold wp.qat at H
 obtain ⟨J124, ⟨m301, hJ300⟩, hS125⟩ := H
 refine ⟨fun m_ z_ w_ => ∃ (i120 : Int) (xs121 : List Int), z_ = (i120, ()) ∧ J124 m_ (i120, xs121, ()) ∧ Chg (InB A0) w w_ ∧ Own el3 w_ 0 A0 c0 xs121 ∧ xs0.length = xs121.length, ⟨m301, (wrap .i64 (x1 + 1)), xs0, rfl, hJ300, hB, O1, (by first | rfl | assumption | omega | (simp; done) | (simp; omega) | (simp; assumption))⟩, ?_⟩
 rintro m123 _ w127 ⟨i120, xs121, rfl, hJ302, hB, O1, hn122⟩
 have H := hS125 m123 _ hJ302
 clear hS125 hJ302
 try dsimp only at H ⊢
 refine brc H (fun h H => ?_) fun h H => ?_
 ·obtain ⟨J202, ⟨m296, hJ295⟩, hS203⟩ := H
  refine ⟨fun m_ z_ w_ => ∃ (i198 : Int) (xs199 : List Int), z_ = (i198, ()) ∧ J202 m_ (i198, xs199, ()) ∧ Chg (InB A0) w w_ ∧ Own el3 w_ 0 A0 c0 xs199 ∧ xs0.length = xs199.length, ⟨m296, i120, xs121, rfl, hJ295, hB, O1, (by first | rfl | assumption | omega | (simp; done) | (simp; omega) | (simp; assumption))⟩, ?_⟩
  rintro m201 _ w205 ⟨i198, xs199, rfl, hJ297, hB, O1, hn200⟩
  have H := hS203 m201 _ hJ297
  clear hS203 hJ297
  try dsimp only at H ⊢
  obtain ⟨K293, hKK293, H⟩ := qcR H
  refine ⟨fun z_ w_ => z_ = (()) ∧ K293 (()) ∧ Chg (InB A0) w w_ ∧ Own el3 w_ 0 A0 c0 xs199, ?_, ?_⟩
  ·have O1 := O1.ext (Ext.drew _)
   have hB := hB.then (Ext.drew _)
   refine brc H (fun h H => ?_) fun h H => ?_
   ·obtain ⟨⟨h0_212, h1_213⟩, H⟩ := H
    obtain ⟨a210, ha211, hat209⟩ := Row.at O1.row h0_212 h1_213
    refine ⟨h0_212, (by first | exact h1_213 | omega | (simp at h1_213 ⊢; omega)), a210, ha211, ?_⟩
    obtain ⟨⟨h0_217, h1_218⟩, H⟩ := H
    obtain ⟨a215, ha216, hat214⟩ := Row.at O1.row h0_217 h1_218
    refine ⟨h0_217, (by first | exact h1_218 | omega | (simp at h1_218 ⊢; omega)), a215, ha216, ?_⟩
    refine And.intro ?_ ?_
    ·have H := H.1
     refine ⟨_, (hat209 0 _ rfl), ?_⟩
     refine qd2 ?_
     refine ⟨_, (hat214 0 _ rfl), ?_⟩
     refine qd2 ?_
     obtain ⟨r219, hr220, H⟩ := qad H
     refine (cmp_Less_int.con hr220 ).mono ?_
     rintro _ w222 ⟨rfl, e223⟩
     have O1 := O1.ext e223
     have hB := hB.then e223
     refine ⟨r219, rfl, ?_⟩
     refine brc H (fun h H => ?_) fun h H => ?_
     ·exact ⟨rfl, H, hB, O1⟩
     obtain ⟨m224, hm225, hJ226⟩ := H
     exact ⟨m224, hm225, _, _, rfl, hJ226, hB, O1, (by first | rfl | assumption | omega | (simp; done) | (simp; omega) | (simp; assumption))⟩
    refine And.intro ?_ ?_
    ·have H := H.2.1
     refine ⟨_, (hat214 0 _ rfl), ?_⟩
     refine qd2 ?_
     refine ⟨_, (hat209 0 _ rfl), ?_⟩
     refine qd2 ?_
     obtain ⟨r228, hr229, H⟩ := qad H
     refine (cmp_Less_int.con hr229 ).mono ?_
     rintro _ w231 ⟨rfl, e232⟩
     have O1 := O1.ext e232
     have hB := hB.then e232
     refine ⟨r228, rfl, ?_⟩
     refine brc H (fun h H => ?_) fun h H => ?_
     ·exact ⟨rfl, H, hB, O1⟩
     obtain ⟨m233, hm234, hJ235⟩ := H
     exact ⟨m233, hm234, _, _, rfl, hJ235, hB, O1, (by first | rfl | assumption | omega | (simp; done) | (simp; omega) | (simp; assumption))⟩
    exact trivial
   refine And.intro ?_ ?_
   ·have H := H.1
    refine qd2 ?_
    refine qd2 ?_
    obtain ⟨m237, hm238, hJ239⟩ := H
    exact ⟨m237, hm238, _, _, rfl, hJ239, hB, O1, (by first | rfl | assumption | omega | (simp; done) | (simp; omega) | (simp; assumption))⟩
   refine And.intro ?_ ?_
   ·have H := H.2.1
    refine qd2 ?_
    refine qd2 ?_
    obtain ⟨m240, hm241, hJ242⟩ := H
    exact ⟨m240, hm241, _, _, rfl, hJ242, hB, O1, (by first | rfl | assumption | omega | (simp; done) | (simp; omega) | (simp; assumption))⟩
   exact trivial
  rintro _ w207 ⟨rfl, H, hB, O1⟩
  have H := hKK293 _ H
  try dsimp only at H ⊢
  have O1 := O1.ext (Ext.drew _)
  have hB := hB.then (Ext.drew _)
  obtain ⟨⟨h0_247, h1_248⟩, H⟩ := H
  obtain ⟨a245, ha246, hat244⟩ := Row.at O1.row h0_247 h1_248
  refine ⟨h0_247, (by first | exact h1_248 | omega | (simp at h1_248 ⊢; omega)), a245, ha246, ?_⟩
  obtain ⟨⟨h0_252, h1_253⟩, H⟩ := H
  obtain ⟨a250, ha251, hat249⟩ := Row.at O1.row h0_252 h1_253
  refine ⟨h0_252, (by first | exact h1_253 | omega | (simp at h1_253 ⊢; omega)), a250, ha251, ?_⟩
  refine And.intro ?_ ?_
  ·have H := H.1
   refine ⟨_, (hat244 0 _ rfl), ?_⟩
   refine qd2 ?_
   refine ⟨_, (hat249 0 _ rfl), ?_⟩
   obtain ⟨⟨h0_257, h1_258⟩, H⟩ := H
   obtain ⟨a255, ha256, hat254⟩ := Row.at O1.row h0_257 h1_258
   refine ⟨h0_257, (by first | exact h1_258 | omega | (simp at h1_258 ⊢; omega)), a255, ha256, ?_⟩
   refine qd2 ?_
   refine Own.stA O1 ha256 h0_257 h1_258 0 (rd xs199 (wrap .i64 (i198 - 1))) (fun w259 P1 e260 hb261 => ?_)
   have O1 := P1
   obtain ⟨⟨h0_265, h1_266⟩, H⟩ := H
   obtain ⟨a263, ha264, hat262⟩ := Row.at O1.row h0_265 h1_266
   refine ⟨h0_265, (by first | exact h1_266 | omega | (simp at h1_266 ⊢; omega)), a263, ha264, ?_⟩
   refine qd2 ?_
   refine Own.stA O1 ha264 h0_265 h1_266 0 (rd xs199 i198) (fun w267 O1 e268 hb269 => ?_)
   have hB := (hB.chgb e260 (Or.inr ⟨_, ha256, rfl⟩)).chgb e268 (Or.inr ⟨_, ha264, rfl⟩)
   obtain ⟨m270, hm271, hJ272⟩ := H
   exact ⟨m270, hm271, _, _, rfl, hJ272, hB, O1, (by first | rfl | assumption | omega | (simp; done) | (simp; omega) | (simp; assumption))⟩
  refine And.intro ?_ ?_
  ·have H := H.2.1
   refine ⟨_, (hat249 0 _ rfl), ?_⟩
   refine qd2 ?_
   refine ⟨_, (hat244 0 _ rfl), ?_⟩
   obtain ⟨⟨h0_276, h1_277⟩, H⟩ := H
   obtain ⟨a274, ha275, hat273⟩ := Row.at O1.row h0_276 h1_277
   refine ⟨h0_276, (by first | exact h1_277 | omega | (simp at h1_277 ⊢; omega)), a274, ha275, ?_⟩
   refine qd2 ?_
   refine Own.stA O1 ha275 h0_276 h1_277 0 (rd xs199 (wrap .i64 (i198 - 1))) (fun w278 P1 e279 hb280 => ?_)
   have O1 := P1
   obtain ⟨⟨h0_284, h1_285⟩, H⟩ := H
   obtain ⟨a282, ha283, hat281⟩ := Row.at O1.row h0_284 h1_285
   refine ⟨h0_284, (by first | exact h1_285 | omega | (simp at h1_285 ⊢; omega)), a282, ha283, ?_⟩
   refine qd2 ?_
   refine Own.stA O1 ha283 h0_284 h1_285 0 (rd xs199 i198) (fun w286 O1 e287 hb288 => ?_)
   have hB := (hB.chgb e279 (Or.inr ⟨_, ha275, rfl⟩)).chgb e287 (Or.inr ⟨_, ha283, rfl⟩)
   obtain ⟨m289, hm290, hJ291⟩ := H
   exact ⟨m289, hm290, _, _, rfl, hJ291, hB, O1, (by first | rfl | assumption | omega | (simp; done) | (simp; omega) | (simp; assumption))⟩
  exact trivial
 cases hr.trans H.symm
 exact ⟨rfl, O1, (by first | (simp only [bC, wC, List.length_set]; done) | (simp only [bC, wC, List.length_set, ← hn122]; done) | (simp; done) | (simp; omega) | omega), hB⟩
def qca.vc (x0 : Int) (w : World) (K : VK) : Prop :=
  qfL (σ := Int × Int × Unit) (fun J21 => qa1 (decide (x0 ≥ 4294967296)) (((0 : Int) ≤ 32 ∧ J21 ((Int.fdiv x0 (2 ^ (min ((32 : Int).toNat) (IntKind.bits .u64)))), 32, ()) w)) (J21 (x0, 0, ()) w)) fun z22 w23 => qfL (σ := Int × Int × Unit) (fun J24 => qa1 (decide (z22.1 ≥ 65536)) (((0 : Int) ≤ 16 ∧ J24 ((Int.fdiv z22.1 (2 ^ (min ((16 : Int).toNat) (IntKind.bits .u64)))), (wrap .i64 (z22.2.1 + 16)), ()) w23)) (J24 (z22.1, z22.2.1, ()) w23)) fun z25 w26 => qfL (σ := Int × Int × Unit) (fun J27 => qa1 (decide (z25.1 ≥ 256)) (((0 : Int) ≤ 8 ∧ J27 ((Int.fdiv z25.1 (2 ^ (min ((8 : Int).toNat) (IntKind.bits .u64)))), (wrap .i64 (z25.2.1 + 8)), ()) w26)) (J27 (z25.1, z25.2.1, ()) w26)) fun z28 w29 => ((0 : Int) ≤ IntKind.wrap .u8 z28.1 ∧ ∃ y30 : UInt8, ((⟨#[0, 1, 2, 2, 3, 3, 3, 3, 4, 4, 4, 4, 4, 4, 4, 4, 5, 5, 5, 5, 5, 5, 5, 5, 5, 5, 5, 5, 5, 5, 5, 5, 6, 6, 6, 6, 6, 6, 6, 6, 6, 6, 6, 6, 6, 6, 6, 6, 6, 6, 6, 6, 6, 6, 6, 6, 6, 6, 6, 6, 6, 6, 6, 6, 7, 7, 7, 7, 7, 7, 7, 7, 7, 7, 7, 7, 7, 7, 7, 7, 7, 7, 7, 7, 7, 7, 7, 7, 7, 7, 7, 7, 7, 7, 7, 7, 7, 7, 7, 7, 7, 7, 7, 7, 7, 7, 7, 7, 7, 7, 7, 7, 7, 7, 7, 7, 7, 7, 7, 7, 7, 7, 7, 7, 7, 7, 7, 7, 8, 8, 8, 8, 8, 8, 8, 8, 8, 8, 8, 8, 8, 8, 8, 8, 8, 8, 8, 8, 8, 8, 8, 8, 8, 8, 8, 8, 8, 8, 8, 8, 8, 8, 8, 8, 8, 8, 8, 8, 8, 8, 8, 8, 8, 8, 8, 8, 8, 8, 8, 8, 8, 8, 8, 8, 8, 8, 8, 8, 8, 8, 8, 8, 8, 8, 8, 8, 8, 8, 8, 8, 8, 8, 8, 8, 8, 8, 8, 8, 8, 8, 8, 8, 8, 8, 8, 8, 8, 8, 8, 8, 8, 8, 8, 8, 8, 8, 8, 8, 8, 8, 8, 8, 8, 8, 8, 8, 8, 8, 8, 8, 8, 8, 8, 8, 8, 8, 8, 8, 8, 8, 8, 8, 8, 8, 8, 8]⟩) : ByteArray)[((IntKind.wrap .u8 z28.1).toNat)]? = some y30 ∧ K (iv (wrap .i64 (z28.2.1 + (wrap .i64 ((y30.toNat : Nat) : Int))))) w29)

def qca.ann : Ann := (.seq .l (.cut [(0, .int .u64), (2, .int .i64)] (.seq .l (.two (.seq .l .l) .l)) (.cut [(0, .int .u64), (2, .int .i64)] (.seq .l (.two (.seq .l .l) .l)) (.cut [(0, .int .u64), (2, .int .i64)] (.seq .l (.two (.seq .l .l) .l)) (.seq .l .l)))))

theorem qca.con {x0 r : Int} {w : World} (hp : M.qfo x0) (hr : r = M.qca x0)  :
    Cl 196 #[(.int .u64 x0)] w (fun v_ w_ => v_ = (iv r) ∧ Ext w w_) := by
 have H := wp.qca.math x0 hp
 have hB := Ext.refl w
 refine begK mixed Tryz.f196 ann (vc x0) ?_
 unfold vc
 unfold wp.qca at H
 obtain ⟨K52, hKK52, H⟩ := qcR H
 refine ⟨fun z_ w_ => ∃ (i21 i22 : Int), z_ = (i21, i22, ()) ∧ K52 (i21, i22, ()) ∧ Ext w w_, ?_, ?_⟩
 ·refine brc H (fun h H => ?_) fun h H => ?_
  ·refine ⟨by decide, ?_⟩
   exact ⟨_, 32, rfl, H, hB⟩
  exact ⟨x0, 0, rfl, H, hB⟩
 rintro _ w24 ⟨i21, i22, rfl, H, hB⟩
 have H := hKK52 _ H
 try dsimp only at H ⊢
 obtain ⟨K50, hKK50, H⟩ := qcR H
 refine ⟨fun z_ w_ => ∃ (i28 i29 : Int), z_ = (i28, i29, ()) ∧ K50 (i28, i29, ()) ∧ Ext w w_, ?_, ?_⟩
 ·refine brc H (fun h H => ?_) fun h H => ?_
  ·refine ⟨by decide, ?_⟩
   exact ⟨_, _, rfl, H, hB⟩
  exact ⟨i21, i22, rfl, H, hB⟩
 rintro _ w31 ⟨i28, i29, rfl, H, hB⟩
 have H := hKK50 _ H
 try dsimp only at H ⊢
 obtain ⟨K48, hKK48, H⟩ := qcR H
 refine ⟨fun z_ w_ => ∃ (i35 i36 : Int), z_ = (i35, i36, ()) ∧ K48 (i35, i36, ()) ∧ Ext w w_, ?_, ?_⟩
 ·refine brc H (fun h H => ?_) fun h H => ?_
  ·refine ⟨by decide, ?_⟩
   exact ⟨_, _, rfl, H, hB⟩
  exact ⟨i28, i29, rfl, H, hB⟩
 rintro _ w38 ⟨i35, i36, rfl, H, hB⟩
 have H := hKK48 _ H
 try dsimp only at H ⊢
 obtain ⟨⟨h0_45, h1_46⟩, H⟩ := H
 obtain ⟨y42, hy43, hyb44⟩ := qnL h0_45 h1_46
 refine ⟨h0_45, y42, hy43, ?_⟩
 rw [hyb44]
 cases hr.trans H.symm
 exact ⟨rfl, hB⟩
def qdb.vc (x0 : Int) (w : World) (K : VK) : Prop :=
  Cl 196 #[(.int .u64 x0)] w fun v21 w22 => (∃ (n23 : Int), v21 = (iv n23) ∧ K (iv n23) w22)

def qdb.ann : Ann := (.seq .l (.seq (.two (.seq .l .l) .l) (.seq .l .l)))

theorem qdb.con {x0 r : Int} {w : World} (hp : M.qfR x0) (hr : r = M.qdb x0)  :
    Cl 157 #[(.int .u64 x0)] w (fun v_ w_ => v_ = (iv r) ∧ Ext w w_) := by
 have H := wp.qdb.math x0 hp
 refine begK mixed Tryz.f157 ann (vc x0) ?_
 unfold vc
 unfold wp.qdb at H
 obtain ⟨hp23, H⟩ := H
 obtain ⟨r21, hr22, H⟩ := qad H
 refine (qca.con hp23 hr22 ).mono ?_
 rintro _ w24 ⟨rfl, e25⟩
 have hB := qa5 (Ext.refl w) e25
 refine ⟨r21, rfl, ?_⟩
 cases hr.trans H.symm
 exact ⟨rfl, hB⟩
def qaL.vc (A0 : OA) (n0 c0 : Nat) (x1 x2 x3 : Int) (w : World) (K : VK) : Prop :=
  qdA (σ := Int × Int × Int × Bool × Bool × Unit) (fun z21 w22 next23 => qa1 (decide ((wrap .i64 (z21.2.1 - z21.1)) ≤ 12)) (Cl 229 #[(sv A0 n0 c0), (iv z21.1), (iv z21.2.1)] w22 fun v24 w25 => (v24 = (.tuple #[]) ∧ K (.tuple #[]) w25)) (qa1 (z21.2.2.1 == 0) (Cl 230 #[(sv A0 n0 c0), (iv z21.1), (iv z21.2.1)] w22 fun v26 w27 => (v26 = (.tuple #[]) ∧ K (.tuple #[]) w27)) (qfL (σ := Int × Unit) (fun J28 => qa1 (!z21.2.2.2.1) (Cl 231 #[(sv A0 n0 c0), (iv z21.1), (iv z21.2.1)] w22 fun v29 w30 => (v29 = (.tuple #[]) ∧ J28 ((wrap .i64 (z21.2.2.1 - 1)), ()) w30)) (J28 (z21.2.2.1, ()) w22)) fun z31 w32 => Cl 232 #[(sv A0 n0 c0), (iv z21.1), (iv z21.2.1)] w32 fun v33 w34 => (∃ u35 : Value, (∃ (n36 : Int), u35 = (iv n36) ∧ ∃ u37 : Value, (∃ (n38 : Int), u37 = (iv n38) ∧ v33 = (.tuple #[(iv n36), (iv n38)]) ∧ qfL (σ := Int × Int × Unit) (fun J39 => qa1 (n38 == 2) (Cl 233 #[(sv A0 n0 c0), (iv z21.1), (iv z21.2.1)] w34 fun v40 w41 => (v40 = (.tuple #[]) ∧ J39 ((wrap .i64 ((wrap .i64 (z21.2.1 - 1)) - (wrap .i64 (n36 - z21.1)))), 1, ()) w41)) (J39 (n36, n38, ()) w34)) fun z42 w43 => qfL (σ := Unit) (fun J44 => qa1 z21.2.2.2.1 (qa1 z21.2.2.2.2.1 (qa1 (z42.2.1 == 1) (Cl 234 #[(sv A0 n0 c0), (iv z21.1), (iv z21.2.1)] w43 fun v45 w46 => (∃ (b47 : Bool), v45 = (.bool b47) ∧ qa1 b47 (K (.tuple #[]) w46) (J44 () w46))) (J44 () w43)) (J44 () w43)) (J44 () w43)) fun z48 w49 => qfL (σ := Bool × Unit) (fun J51 => (∃ M52 : Nat → Prop, qa1 (decide (z21.1 > 0)) ((idx (wrap .i64 (z21.1 - 1)) n0 A0 fun a53 => ldIM M52 w49 (a53.add (((wrap .i64 (z21.1 - 1)).toNat) * 1)) 0 fun n54 => (idx z42.1 n0 A0 fun a55 => ldIM M52 w49 (a55.add ((z42.1.toNat) * 1)) 0 fun n56 => Cl 235 #[(iv n54), (iv n56)] w49.drew fun v57 w58 => (∃ (b59 : Bool), v57 = (.bool b59) ∧ qac M52 w49 w58 ∧ J51 ((!b59), ()) w58)))) (J51 (false, ()) w49.drew))) fun z60 w61 => qa1 z60.1 (Cl 236 #[(sv A0 n0 c0), (iv z21.1), (iv z21.2.1), (iv z42.1)] w61 fun v62 w63 => (∃ (n64 : Int), v62 = (iv n64) ∧ next23 (n64, z21.2.1, z31.1, z21.2.2.2.1, z21.2.2.2.2.1, ()) w63)) (Cl 237 #[(sv A0 n0 c0), (iv z21.1), (iv z21.2.1), (iv z42.1)] w61 fun v65 w66 => (∃ u67 : Value, (∃ (n68 : Int), u67 = (iv n68) ∧ ∃ u69 : Value, (∃ (b70 : Bool), u69 = (.bool b70) ∧ v65 = (.tuple #[(iv n68), (.bool b70)]) ∧ ((8 : Int) ≠ 0 ∧ qa1 (decide ((wrap .i64 (n68 - z21.1)) < (wrap .i64 (z21.2.1 - n68)))) (Cl 209 #[(sv A0 n0 c0), (iv z21.1), (iv n68), (iv z31.1)] w66 fun v71 w72 => (v71 = (.tuple #[]) ∧ next23 ((wrap .i64 (n68 + 1)), z21.2.1, z31.1, (decide ((wrap .i64 (n68 - z21.1)) ≥ (wrap .i64 (Int.tdiv (wrap .i64 (z21.2.1 - z21.1)) 8)))), b70, ()) w72)) (Cl 209 #[(sv A0 n0 c0), (iv (wrap .i64 (n68 + 1))), (iv z21.2.1), (iv z31.1)] w66 fun v73 w74 => (v73 = (.tuple #[]) ∧ next23 (z21.1, n68, z31.1, (decide ((wrap .i64 (z21.2.1 - n68)) ≥ (wrap .i64 (Int.tdiv (wrap .i64 (z21.2.1 - z21.1)) 8)))), b70, ()) w74))))))))))))) (x1, x2, x3, true, true, ()) w

def qaL.ann : Ann := (.seq .l (.seq .l (.one (.loop [(1, .int .i64), (2, .int .i64), (3, .int .i64), (8, .bool), (9, .bool)] (.one (.seq .l (.seq (.seq .l (.two (.seq .l .l) .l)) (.seq (.seq .l (.two (.seq .l .l) .l)) (.cut [(3, .int .i64)] (.seq .l (.two (.seq .l .l) .l)) (.seq .l (.cut [(11, .int .i64), (12, .int .i64)] (.seq .l (.two (.seq .l (.seq .l .l)) .l)) (.cut [] (.seq .l (.two (.seq .l (.two .l .l)) .l)) (.seq (.cut [(87, .bool)] .l (.two (.seq .l (.seq .l .l)) .l)) (.seq .l (.seq .l (.seq .l (.seq .l (.seq .l (.two (.seq .l (.seq .l .l)) (.seq .l (.seq .l .l)))))))))))))))))))))

theorem qaL.con {xs0 : List Int} {A0 : OA} {c0 : Nat} {x1 x2 x3 : Int} {r : (List Int)} {w : World} (hp : M.qdP xs0 x1 x2 x3) (hr : r = M.qaL xs0 x1 x2 x3) (O1 : Own el3 w 0 A0 c0 xs0) :
    Cl 209 #[(sv A0 xs0.length c0), (iv x1), (iv x2), (iv x3)] w (fun v_ w_ => v_ = (.tuple #[]) ∧ Own el3 w_ 0 A0 c0 r ∧ r.length = xs0.length ∧ Chg (InB A0) w w_) := by
 have H := wp.qaL.math xs0 x1 x2 x3 hp
 have hB := Chg.refl (InB A0) w
 refine begK mixed Tryz.f209 ann (vc A0 xs0.length c0 x1 x2 x3) ?_
 unfold vc
 unfold wp.qaL at H
 obtain ⟨J27, ⟨m46, hJ45⟩, hS28⟩ := H
 refine ⟨fun m_ z_ w_ => ∃ (i21 i22 i23 : Int) (b24 b25 : Bool), z_ = (i21, i22, i23, b24, b25, ()) ∧ J27 m_ (i21, i22, i23, b24, b25, ()) ∧ Chg (InB A0) w w_ ∧ Own el3 w_ 0 A0 c0 xs0, ⟨m46, x1, x2, x3, true, true, rfl, hJ45, hB, O1⟩, ?_⟩
 rintro m26 _ w30 ⟨i21, i22, i23, b24, b25, rfl, hJ47, hB, O1⟩
 have H := hS28 m26 _ hJ47
 clear hS28 hJ47
 try dsimp only at H ⊢
 refine brc H (fun h H => ?_) fun h H => ?_
 ·obtain ⟨hp33, H⟩ := H
  obtain ⟨r31, hr32, H⟩ := qad H
  refine (qat.con hp33 hr32 (O1.mono (Nat.zero_le _))).mono ?_
  rintro _ w34 ⟨rfl, Q1, hl36, e35⟩
  have hB := hB.chg e35 (fun g h_ => (Or.inr h_))
  have O1 := Q1
  refine ⟨rfl, ?_⟩
  cases hr.trans H.symm
  exact ⟨rfl, O1, (by first | (simp only [bC, wC, List.length_set]; done) | (simp only [bC, wC, List.length_set, hl36]; done) | (simp; done) | (simp; omega) | omega), hB⟩
 refine brc H (fun h H => ?_) fun h H => ?_
 ·exact H.elim
 exact H.elim
def qaR.vc (A0 : OA) (n0 c0 : Nat) (w : World) (K : VK) : Prop :=
  Cl 157 #[(.int .u64 (IntKind.wrap .u64 ((n0 : Nat) : Int)))] w fun v21 w22 => (∃ (n23 : Int), v21 = (iv n23) ∧ Cl 209 #[(sv A0 n0 c0), (iv 0), (iv ((n0 : Nat) : Int)), (iv n23)] w22 fun v24 w25 => (v24 = (.tuple #[]) ∧ K (.tuple #[]) w25))

def qaR.ann : Ann := (.seq .l .l)

theorem qaR.con {xs0 : List Int} {A0 : OA} {c0 : Nat} {r : (List Int)} {w : World} (hp : M.qew xs0) (hr : r = M.qaR xs0) (O1 : Own el3 w 0 A0 c0 xs0) :
    Cl 180 #[(sv A0 xs0.length c0)] w (fun v_ w_ => v_ = (.tuple #[]) ∧ Own el3 w_ 0 A0 c0 r ∧ r.length = xs0.length ∧ Chg (InB A0) w w_) := by
 have H := wp.qaR.math xs0 hp
 refine begK mixed Tryz.f180 ann (vc A0 xs0.length c0) ?_
 unfold vc
 unfold wp.qaR at H
 obtain ⟨hp23, H⟩ := H
 obtain ⟨r21, hr22, H⟩ := qad H
 refine (qdb.con hp23 hr22 ).mono ?_
 rintro _ w24 ⟨rfl, e25⟩
 have O1 := O1.ext e25
 refine ⟨r21, rfl, ?_⟩
 obtain ⟨hp28, H⟩ := H
 obtain ⟨r26, hr27, H⟩ := qad H
 refine (qaL.con hp28 hr27 (O1.mono (Nat.zero_le _))).mono ?_
 rintro _ w29 ⟨rfl, Q1, hl31, e30⟩
 have hB := ((Chg.refl (InB A0) w).then e25).chg e30 (fun g h_ => (Or.inr h_))
 have O1 := Q1
 refine ⟨rfl, ?_⟩
 cases hr.trans H.symm
 exact ⟨rfl, O1, (by first | (simp only [bC, wC, List.length_set]; done) | (simp only [bC, wC, List.length_set, hl31]; done) | (simp; done) | (simp; omega) | omega), hB⟩
def qay.vc (A0 : OA) (n0 c0 : Nat) (w : World) (K : VK) : Prop :=
  qa1 (decide (((n0 : Nat) : Int) < 2)) (K (sv A0 n0 c0) w) (qdA (σ := Int × Unit) (fun z21 w22 next23 => qa1 (decide (z21.1 < ((n0 : Nat) : Int))) ((idx z21.1 n0 A0 fun a24 => ldI w22 ((a24.add ((z21.1.toNat) * 1)).add 0) fun n25 => (idx (wrap .i64 (z21.1 - 1)) n0 A0 fun a26 => ldI w22 ((a26.add (((wrap .i64 (z21.1 - 1)).toNat) * 1)).add 0) fun n27 => qa1 (n25 == n27) (((0 : Int) ≤ z21.1 ∧ z21.1 ≤ ((n0 : Nat) : Int) ∧ qdA (σ := Int × Int × Unit) (fun z28 w29 next30 => qa1 (decide (z28.2.1 < (((n0 - (z21.1.toNat)) : Nat) : Int))) ((idx z28.2.1 (n0 - (z21.1.toNat)) ((if c0 = (z21.1.toNat) then A0 else A0.map (·.add ((z21.1.toNat) * szOf Tryz.prog 3)))) fun a31 => ldI w29 ((a31.add ((z28.2.1.toNat) * 1)).add 0) fun n32 => (idx (wrap .i64 (z28.2.1 - 1)) (n0 - (z21.1.toNat)) ((if c0 = (z21.1.toNat) then A0 else A0.map (·.add ((z21.1.toNat) * szOf Tryz.prog 3)))) fun a33 => ldI w29 ((a33.add (((wrap .i64 (z28.2.1 - 1)).toNat) * 1)).add 0) fun n34 => qa1 (n32 != n34) ((idx z28.2.1 (n0 - (z21.1.toNat)) ((if c0 = (z21.1.toNat) then A0 else A0.map (·.add ((z21.1.toNat) * szOf Tryz.prog 3)))) fun a35 => ∃ (n36 : Int), w29.drew.cell? ((a35.add ((z28.2.1.toNat) * 1)).add 0) = some (iv n36) ∧ (idx z28.1 n0 A0 fun a37 => qa7 (a37.add ((z28.1.toNat) * 1)) [(iv n36)] 0 w29.drew fun w38 => next30 ((wrap .i64 (z28.1 + 1)), (wrap .i64 (z28.2.1 + 1)), ()) w38))) (next30 (z28.1, (wrap .i64 (z28.2.1 + 1)), ()) w29.drew)))) (((0 : Int) ≤ z28.1 ∧ z28.1 ≤ ((n0 : Nat) : Int) ∧ Run Tryz.prog (Builtin.clear_ #[24] 0 #[(sv (if c0 = (z28.1.toNat) then A0 else A0.map (·.add ((z28.1.toNat) * szOf Tryz.prog 3))) (n0 - (z28.1.toNat)) (c0 - (z28.1.toNat)))]) w29 fun v39 w40 => v39 = .tuple #[] ∧ ((0 : Int) ≤ z28.1 ∧ z28.1 ≤ ((c0 : Nat) : Int) ∧ K (sv A0 (z28.1.toNat) c0) w40)))) (z21.1, 1, ()) w22.drew)) (next23 ((wrap .i64 (z21.1 + 1)), ()) w22.drew)))) (K (sv A0 n0 c0) w22)) (1, ()) w)

def qay.ann : Ann := (.seq .l (.seq (.seq .l (.two (.seq .l .l) .l)) (.seq (.seq .l (.one (.loop [(3, .int .i64)] (.seq (.seq .l (.two .l .l)) (.seq (.one (.seq .l (.two (.seq .l (.seq (.seq .l (.one (.loop [(3, .int .i64), (5, .int .i64)] (.seq (.seq .l (.two .l .l)) (.seq (.one (.seq .l (.two (.seq .l .l) .l))) .l))))) (.seq .l (.seq .l .l)))) .l))) .l))))) (.seq .l .l))))

theorem qay.con {xs0 r : List Int} {A0 : OA} {c0 : Nat} {w : World} (hp : M.qea xs0) (hr : r = M.qay xs0) (O1 : Own el3 w 0 A0 c0 xs0) :
    Cl 181 #[(sv A0 xs0.length c0)] w (fun v_ w_ => ∃ (A0_ : OA) (c0_ : Nat), v_ = (sv A0_ r.length c0_) ∧ Own el3 w_ 0 A0_ c0_ r ∧ Mov w A0 A0_ ∧ Chg (InB A0) w w_) := by
 have H := wp.qay.math xs0 hp
 have hB := Chg.refl (InB A0) w
 refine begK mixed Tryz.f181 ann (vc A0 xs0.length c0) ?_
 unfold vc
 unfold wp.qay at H
 refine brc H (fun h H => ?_) fun h H => ?_
 ·cases hr.trans H.symm
  exact ⟨A0, c0, rfl, (O1.mono (Nat.zero_le _)), (Mov.same _ _), hB⟩
 obtain ⟨J23, ⟨m66, hJ65⟩, hS24⟩ := H
 refine ⟨fun m_ z_ w_ => ∃ (i21 : Int), z_ = (i21, ()) ∧ J23 m_ (i21, ()) ∧ Chg (InB A0) w w_ ∧ Own el3 w_ 0 A0 c0 xs0, ⟨m66, 1, rfl, hJ65, hB, O1⟩, ?_⟩
 rintro m22 _ w26 ⟨i21, rfl, hJ67, hB, O1⟩
 have H := hS24 m22 _ hJ67
 clear hS24 hJ67
 try dsimp only at H ⊢
 refine brc H (fun h H => ?_) fun h H => ?_
 ·obtain ⟨⟨h0_31, h1_32⟩, H⟩ := H
  obtain ⟨a29, ha30, hat28⟩ := Row.at O1.row h0_31 h1_32
  refine ⟨h0_31, h1_32, a29, ha30, _, (hat28 0 _ rfl), ?_⟩
  obtain ⟨⟨h0_36, h1_37⟩, H⟩ := H
  obtain ⟨a34, ha35, hat33⟩ := Row.at O1.row h0_36 h1_37
  refine ⟨h0_36, h1_37, a34, ha35, _, (hat33 0 _ rfl), ?_⟩
  have O1 := O1.ext (Ext.drew _)
  have hB := hB.then (Ext.drew _)
  refine brc H (fun h H => ?_) fun h H => ?_
  ·obtain ⟨⟨hl38, hl39⟩, H⟩ := H
   refine and_assoc.1 ⟨⟨hl38, hl39⟩, ?_⟩
   rw [show (xs0.length - (i21.toNat)) = ((List.drop (i21.toNat) xs0)).length from by first | rfl | (simp; done) | (simp; omega)]
   obtain ⟨J43, ⟨m57, hJ56⟩, hS44⟩ := H
   refine ⟨fun m_ z_ w_ => ∃ (i40 i41 : Int), z_ = (i40, i41, ()) ∧ J43 m_ (i40, i41, ()) ∧ Chg (InB A0) w w_ ∧ Own el3 w_ 0 A0 c0 xs0, ⟨m57, i21, 1, rfl, hJ56, hB, O1⟩, ?_⟩
   rintro m42 _ w46 ⟨i40, i41, rfl, hJ58, hB, O1⟩
   have H := hS44 m42 _ hJ58
   clear hS44 hJ58
   try dsimp only at H ⊢
   refine brc H (fun h H => ?_) fun h H => ?_
   ·exact H.elim
   obtain ⟨⟨hl48, hl49⟩, H⟩ := H
   refine and_assoc.1 ⟨⟨hl48, hl49⟩, ?_⟩
   rw [show (xs0.length - (i40.toNat)) = ((List.drop (i40.toNat) xs0)).length from by first | rfl | (simp; done) | (simp; omega)]
   refine qlW qdZ O1 (l := (i40.toNat)) (by first | omega | (simp; omega)) (by first | rfl | (simp; done) | (simp; omega)) (fun w50 O1 e51 => ?_)
   have hB := hB.app e51 (fun g h_ => (Or.inr h_))
   obtain ⟨⟨hh52, hh53⟩, H⟩ := H
   refine and_assoc.1 ⟨⟨hh52, Int.le_trans hh53 (Int.ofNat_le.2 O1.le)⟩, ?_⟩
   rw [show (i40.toNat) = ((List.take (i40.toNat) (List.take (i40.toNat) xs0 ++ List.replicate (xs0.length - (i40.toNat)) default))).length from by first | rfl | (simp; done) | (simp; omega)]
   have O4 := (O1.take (i40.toNat))
   cases hr.trans H.symm
   exact ⟨A0, c0, rfl, (O4.mono (Nat.zero_le _)), (Mov.same _ _), hB⟩
  obtain ⟨m59, hm60, hJ61⟩ := H
  exact ⟨m59, hm60, _, rfl, hJ61, hB, O1⟩
 cases hr.trans H.symm
 exact ⟨A0, c0, rfl, (O1.mono (Nat.zero_le _)), (Mov.same _ _), hB⟩
def qdr.vc (A0 : OA) (n0 c0 : Nat) (x1 : Int) (w : World) (K : VK) : Prop :=
  qa1 (x1 == ((n0 : Nat) : Int)) (Run Tryz.prog (Instr.buildSlice 24 0 #[]) w fun v21 w22 => ∃ (A23 : OA) (n24 c25 : Nat), v21 = .slice A23 n24 c25 ∧ K (sv A23 n24 c25) w22) ((idx x1 n0 A0 fun a26 => ldI w ((a26.add ((x1.toNat) * 4)).add 0) fun n27 => ldI w ((a26.add ((x1.toNat) * 4)).add 1) fun n28 => ldI w ((a26.add ((x1.toNat) * 4)).add 2) fun n29 => ldI w ((a26.add ((x1.toNat) * 4)).add 3) fun n30 => newK w (.cells #[(iv 0), (iv 0), (iv 0), (iv 0)] 84) fun g31 w32 => qa7 (bx g31) [(iv n27), (iv n28), (iv n29), (iv n30)] 0 w32 fun w33 => ldI w33 (((bx g31).add 0).add 0) fun n34 => qa1 (n34 == 12) (Run Tryz.prog (Instr.buildSlice 24 1 #[(0, (iv ((n0 : Nat) : Int)))]) w33 fun v35 w36 => ∃ (A37 : OA) (n38 c39 : Nat), v35 = .slice A37 n38 c39 ∧ K (sv A37 n38 c39) w36) (qa1 (n34 == 11) (ldI w33 (((bx g31).add 2).add 0) fun n40 => Run Tryz.prog (Instr.buildSlice 24 1 #[(0, (iv n40))]) w33 fun v41 w42 => ∃ (A43 : OA) (n44 c45 : Nat), v41 = .slice A43 n44 c45 ∧ K (sv A43 n44 c45) w42) (qa1 (n34 == 10) (ldI w33 (((bx g31).add 2).add 0) fun n46 => Run Tryz.prog (Instr.buildSlice 24 2 #[(0, (iv n46)), (1, (iv (wrap .i64 (x1 + 1))))]) w33 fun v47 w48 => ∃ (A49 : OA) (n50 c51 : Nat), v47 = .slice A49 n50 c51 ∧ Cl 180 #[(sv A49 n50 c51)] w48 fun v52 w53 => (v52 = (.tuple #[]) ∧ Cl 181 #[(sv A49 n50 c51)] w53 fun v54 w55 => (∃ (A56 : OA) (n57 c58 : Nat), v54 = (sv A56 n57 c58) ∧ K (sv A56 n57 c58) w55))) (Run Tryz.prog (Instr.buildSlice 24 1 #[(0, (iv (wrap .i64 (x1 + 1))))]) w33 fun v59 w60 => ∃ (A61 : OA) (n62 c63 : Nat), v59 = .slice A61 n62 c63 ∧ K (sv A61 n62 c63) w60)))))

def qdr.ann : Ann := (.seq .l (.seq (.seq .l (.two (.seq .l .l) .l)) (.seq (.seq .l (.seq .l (.one (.seq .l (.two (.seq .l .l) (.seq .l (.two (.seq .l .l) (.seq .l (.two (.seq .l (.seq .l (.seq .l .l))) .l))))))))) (.seq .l .l))))

theorem qdr.con {xs0 : List D.Ins} {A0 : OA} {c0 : Nat} {x1 : Int} {r : List Int} {w : World} (hp : M.qfH xs0 x1) (hr : r = M.qdr xs0 x1) (R0 : Row el84 w A0 xs0) (hc0 : xs0.length ≤ c0) :
    Cl 147 #[(sv A0 xs0.length c0), (iv x1)] w (fun v_ w_ => ∃ (A0_ : OA) (c0_ : Nat), v_ = (sv A0_ r.length c0_) ∧ Own el3 w_ w.heap.size A0_ c0_ r ∧ Ext w w_) := by
 have H := wp.qdr.math xs0 x1 hp
 have hB := Ext.refl w
 refine begK mixed Tryz.f147 ann (vc A0 xs0.length c0 x1) ?_
 unfold vc
 unfold wp.qdr at H
 refine brc H (fun h H => ?_) fun h H => ?_
 ·refine qap el3 ([] : List Int) (fun _ => by kernel_rfl) rfl (fun A21 w22 P2 e23 => ?_)
  have O2 := P2.mono hB.size
  have hB := qa5 hB e23
  cases hr.trans H.symm
  exact ⟨A21, 0, (by first | rfl | (simp; done) | (simp; omega) | (simp [*]; done)), (by first | exact O2 | (simp only [bC, wC, List.length_set]; exact O2)), hB⟩
 obtain ⟨⟨h0_27, h1_28⟩, H⟩ := H
 obtain ⟨a25, ha26, hat24⟩ := Row.at (R0.ext hB) h0_27 h1_28
 refine ⟨h0_27, h1_28, a25, ha26, _, (hat24 0 _ rfl), _, (hat24 1 _ rfl), _, (hat24 2 _ rfl), _, (hat24 3 _ rfl), ?_⟩
 refine qiV #[(iv ((rd xs0 x1).Op)), (iv ((rd xs0 x1).A)), (iv ((rd xs0 x1).B)), (iv ((rd xs0 x1).C))] (fun g3_ w31 L3 O3 e32 => ?_)
 have hB := qa5 hB e32
 refine ⟨_, (O3.a 0), ?_⟩
 refine brc H (fun h H => ?_) fun h H => ?_
 ·refine qap el3 ([(xs0.length : Int)] : List Int) (fun _ => by kernel_rfl) rfl (fun A33 w34 P4 e35 => ?_)
  have O4 := P4.mono hB.size
  have hB := qa5 hB e35
  cases hr.trans H.symm
  exact ⟨A33, 1, (by first | rfl | (simp; done) | (simp; omega) | (simp [*]; done)), (by first | exact O4 | (simp only [bC, wC, List.length_set]; exact O4)), hB⟩
 refine brc H (fun h H => ?_) fun h H => ?_
 ·refine ⟨_, (O3.a 2), ?_⟩
  refine qap el3 ([(rd xs0 x1).B] : List Int) (fun _ => by kernel_rfl) rfl (fun A36 w37 P5 e38 => ?_)
  have O5 := P5.mono hB.size
  have hB := qa5 hB e38
  cases hr.trans H.symm
  exact ⟨A36, 1, (by first | rfl | (simp; done) | (simp; omega) | (simp [*]; done)), (by first | exact O5 | (simp only [bC, wC, List.length_set]; exact O5)), hB⟩
 refine brc H (fun h H => ?_) fun h H => ?_
 ·refine ⟨_, (O3.a 2), ?_⟩
  refine qap el3 ([(rd xs0 x1).B, (wrap .i64 (x1 + 1))] : List Int) (fun _ => by kernel_rfl) rfl (fun A39 w40 P6 e41 => ?_)
  have O6 := P6.mono hB.size
  have hB := qa5 hB e41
  obtain ⟨hp44, H⟩ := H
  obtain ⟨r42, hr43, H⟩ := qad H
  refine (cllA (qaR.con hp44 hr43 (O6.mono (Nat.zero_le _)))).mono ?_
  rintro _ w45 ⟨rfl, Q6, hl47, e46⟩
  have hB := Chg.ext hB e46 O6.low
  have O6 := Q6.up O6
  refine ⟨rfl, ?_⟩
  obtain ⟨hp50, H⟩ := H
  obtain ⟨r48, hr49, H⟩ := qad H
  refine (qhX (by first | (simp only [bC, wC, List.length_set, hl47]; done) | (simp; done)) (qay.con hp50 hr49 (O6.mono (Nat.zero_le _)))).mono ?_
  rintro _ w51 ⟨A53, c54, rfl, P7, Mv7, e52⟩
  have Lw7 := Mv7.low O6.low hB.size
  have hB := Chg.ext hB e52 O6.low
  have O7 := P7.lift Lw7
  refine ⟨A53, r48.length, c54, rfl, ?_⟩
  cases hr.trans H.symm
  exact ⟨A53, c54, rfl, O7, hB⟩
 refine qap el3 ([(wrap .i64 (x1 + 1))] : List Int) (fun _ => by kernel_rfl) rfl (fun A55 w56 P8 e57 => ?_)
 have O8 := P8.mono hB.size
 have hB := qa5 hB e57
 cases hr.trans H.symm
 exact ⟨A55, 1, (by first | rfl | (simp; done) | (simp; omega) | (simp [*]; done)), (by first | exact O8 | (simp only [bC, wC, List.length_set]; exact O8)), hB⟩
def qbC.vc (A0 : OA) (n0 c0 : Nat) (w : World) (K : VK) : Prop :=
  Cl 75 #[(sv A0 n0 c0)] w fun v21 w22 => (∃ (b23 : Bool), v21 = (.bool b23) ∧ qa1 (!b23) (K (sv none 0 0) w22) (Run Tryz.prog (Instr.buildSlice 24 0 #[]) w22 fun v24 w25 => ∃ (A26 : OA) (n27 c28 : Nat), v24 = .slice A26 n27 c28 ∧ qdA (σ := (OA × Nat × Nat) × Int × Unit) (fun z29 w30 next31 => qa1 (decide (z29.2.1 < ((n0 : Nat) : Int))) (Cl 147 #[(sv A0 n0 c0), (iv z29.2.1)] w30 fun v32 w33 => (∃ (A34 : OA) (n35 c36 : Nat), v32 = (sv A34 n35 c36) ∧ qa1 (((n35 : Nat) : Int) == 2) (Run Tryz.prog (Instr.buildSlice 24 1 #[(0, (iv z29.2.1))]) w33 fun v37 w38 => ∃ (A39 : OA) (n40 c41 : Nat), v37 = .slice A39 n40 c41 ∧ Run Tryz.prog (Builtin.append_ #[24, 24] 24 #[(sv z29.1.1 z29.1.2.1 z29.1.2.2), (sv A39 n40 c41)]) w38 fun v42 w43 => ∃ (A44 : OA) (n45 c46 : Nat), v42 = .slice A44 n45 c46 ∧ next31 ((A44, n45, c46), (wrap .i64 (z29.2.1 + 1)), ()) w43) (next31 ((z29.1.1, z29.1.2.1, z29.1.2.2), (wrap .i64 (z29.2.1 + 1)), ()) w33))) (K (sv z29.1.1 z29.1.2.1 z29.1.2.2) w30)) ((A26, n27, c28), 0, ()) w25))

def qbC.ann : Ann := (.seq .l (.seq (.seq .l (.two (.seq .l .l) .l)) (.seq .l (.seq (.seq .l (.one (.loop [(3, .sl), (11, .int .i64)] (.seq .l (.seq (.two .l .l) (.seq (.one (.seq .l (.seq .l (.two .l .l)))) .l)))))) (.seq .l .l)))))

theorem qbC.con {xs0 : List D.Ins} {A0 : OA} {c0 : Nat} {r : List Int} {w : World} (hp : M.qfj xs0) (hr : r = M.qbC xs0) (R0 : Row el84 w A0 xs0) (hc0 : xs0.length ≤ c0) :
    Cl 91 #[(sv A0 xs0.length c0)] w (fun v_ w_ => ∃ (A0_ : OA) (c0_ : Nat), v_ = (sv A0_ r.length c0_) ∧ Own el3 w_ w.heap.size A0_ c0_ r ∧ Ext w w_) := by
 have H := wp.qbC.math xs0 hp
 have hB := Ext.refl w
 refine begK mixed Tryz.f91 ann (vc A0 xs0.length c0) ?_
 unfold vc
 unfold wp.qbC at H
 obtain ⟨hp23, H⟩ := H
 obtain ⟨r21, hr22, H⟩ := qad H
 refine (qbe.con hp23 hr22 (R0.ext hB) hc0).mono ?_
 rintro _ w24 ⟨rfl, e25⟩
 have hB := qa5 hB e25
 refine ⟨r21, rfl, ?_⟩
 refine brc H (fun h H => ?_) fun h H => ?_
 ·cases hr.trans H.symm
  exact ⟨none, 0, rfl, Own.nil, hB⟩
 refine qap el3 ([] : List Int) (fun _ => by kernel_rfl) rfl (fun A26 w27 P2 e28 => ?_)
 have O2 := P2.mono hB.size
 have hB := qa5 hB e28
 obtain ⟨J34, ⟨m63, hJ62⟩, hS35⟩ := H
 refine ⟨fun m_ z_ w_ => ∃ (xs29 : List Int) (i32 : Int) (A30 : OA) (c31 : Nat), z_ = ((A30, xs29.length, c31), i32, ()) ∧ J34 m_ (xs29, i32, ()) ∧ Ext w w_ ∧ Own el3 w_ w.heap.size A30 c31 xs29, ⟨m63, ([] : List Int), 0, A26, 0, rfl, hJ62, hB, O2⟩, ?_⟩
 rintro m33 _ w37 ⟨xs29, i32, A30, c31, rfl, hJ64, hB, O3⟩
 have H := hS35 m33 _ hJ64
 clear hS35 hJ64
 try dsimp only at H ⊢
 refine brc H (fun h H => ?_) fun h H => ?_
 ·obtain ⟨hp40, H⟩ := H
  obtain ⟨r38, hr39, H⟩ := qad H
  refine (qdr.con hp40 hr39 (R0.ext hB) hc0).mono ?_
  rintro _ w41 ⟨A43, c44, rfl, P4, e42⟩
  have O3 := O3.ext e42
  have hB := qa5 hB e42
  refine ⟨A43, r38.length, c44, rfl, ?_⟩
  refine brc H (fun h H => ?_) fun h H => ?_
  ·refine qap el3 ([i32] : List Int) (fun _ => by kernel_rfl) rfl (fun A45 w46 P5 e47 => ?_)
   have O3 := O3.ext e47
   have O5 := P5.mono hB.size
   have hB := qa5 hB e47
   obtain ⟨hl52, H⟩ := H
   refine appO qdZ O3 O5.row hB.size hl52 (fun A48 c49 w50 P3 e51 => ?_)
   have hB := eapp hB e51 O3
   have O3 := P3
   obtain ⟨m53, hm54, hJ55⟩ := H
   exact ⟨m53, hm54, _, _, A48, c49, rfl, hJ55, hB, O3⟩
  obtain ⟨m56, hm57, hJ58⟩ := H
  exact ⟨m56, hm57, xs29, _, A30, c31, rfl, hJ58, hB, O3⟩
 cases hr.trans H.symm
 exact ⟨A30, c31, rfl, O3, hB⟩
def qdc.vc (A0 : OA) (n0 c0 : Nat) (x1 : Int) (w : World) (K : VK) : Prop :=
  Cl 91 #[(sv A0 n0 c0)] w fun v21 w22 => (∃ (A23 : OA) (n24 c25 : Nat), v21 = (sv A23 n24 c25) ∧ Cl 182 #[(sv A23 n24 c25), (iv x1)] w22 fun v26 w27 => (∃ (b28 : Bool), v26 = (.bool b28) ∧ K (.bool b28) w27))

def qdc.ann : Ann := (.seq .l (.seq .l .l))

theorem qdc.con {xs0 : List D.Ins} {A0 : OA} {c0 : Nat} {x1 : Int} {r : Bool} {w : World} (hp : M.qfO xs0 x1) (hr : r = M.qdc xs0 x1) (R0 : Row el84 w A0 xs0) (hc0 : xs0.length ≤ c0) :
    Cl 148 #[(sv A0 xs0.length c0), (iv x1)] w (fun v_ w_ => v_ = (.bool r) ∧ Ext w w_) := by
 have H := wp.qdc.math xs0 x1 hp
 have hB := Ext.refl w
 refine begK mixed Tryz.f148 ann (vc A0 xs0.length c0 x1) ?_
 unfold vc
 unfold wp.qdc at H
 obtain ⟨hp23, H⟩ := H
 obtain ⟨r21, hr22, H⟩ := qad H
 refine (qbC.con hp23 hr22 (R0.ext hB) hc0).mono ?_
 rintro _ w24 ⟨A26, c27, rfl, P2, e25⟩
 have O2 := P2.mono hB.size
 refine ⟨A26, r21.length, c27, rfl, ?_⟩
 obtain ⟨hp30, H⟩ := H
 obtain ⟨r28, hr29, H⟩ := qad H
 refine (qaU.con hp30 hr29 O2.row O2.le).mono ?_
 rintro _ w31 ⟨rfl, e32⟩
 have hB := qa5 (qa5 hB e25) e32
 refine ⟨r28, rfl, ?_⟩
 cases hr.trans H.symm
 exact ⟨rfl, hB⟩
def qcx.vc (A0 : OA) (n0 c0 : Nat) (A1 : OA) (n1 c1 : Nat) (x2 : Int) (w : World) (K : VK) : Prop :=
  qge Tryz.prog 149 (wrap .i64 (((n0 : Nat) : Int) + 1)) (wrap .i64 (((n0 : Nat) : Int) + 1)) w fun g21 w22 => Cl 128 #[(sv A1 n1 c1)] w22 fun v23 w24 => (∃ (A25 : OA) (n26 c27 : Nat), v23 = (sv A25 n26 c27) ∧ qdA (σ := (OA × Nat × Nat) × Unit) (fun z28 w29 next30 => qa1 (decide (((z28.1.2.1 : Nat) : Int) > 0)) ((idx 0 z28.1.2.1 z28.1.1 fun a31 => ldI w29 ((a31.add (((0 : Int).toNat) * 1)).add 0) fun n32 => ((0 : Int) ≤ 1 ∧ 1 ≤ ((z28.1.2.1 : Nat) : Int) ∧ qa1 (n32 == x2) (next30 (((if z28.1.2.2 = ((1 : Int).toNat) then z28.1.1 else z28.1.1.map (·.add (((1 : Int).toNat) * szOf Tryz.prog 3))), (z28.1.2.1 - ((1 : Int).toNat)), (z28.1.2.2 - ((1 : Int).toNat))), ()) w29) ((idx n32 ((wrap .i64 (((n0 : Nat) : Int) + 1)).toNat) ((some (bx g21))) fun a34 => ∃ (b35 : Bool), w29.cell? ((a34.add ((n32.toNat) * 1)).add 0) = some (.bool b35) ∧ qa1 b35 (next30 (((if z28.1.2.2 = ((1 : Int).toNat) then z28.1.1 else z28.1.1.map (·.add (((1 : Int).toNat) * szOf Tryz.prog 3))), (z28.1.2.1 - ((1 : Int).toNat)), (z28.1.2.2 - ((1 : Int).toNat))), ()) w29) ((idx n32 ((wrap .i64 (((n0 : Nat) : Int) + 1)).toNat) ((some (bx g21))) fun a36 => qa7 (a36.add ((n32.toNat) * 1)) [(.bool true)] 0 w29 fun w37 => Cl 147 #[(sv A0 n0 c0), (iv n32)] w37 fun v38 w39 => (∃ (A40 : OA) (n41 c42 : Nat), v38 = (sv A40 n41 c42) ∧ Run Tryz.prog (Builtin.append_ #[24, 24] 24 #[(sv (if z28.1.2.2 = ((1 : Int).toNat) then z28.1.1 else z28.1.1.map (·.add (((1 : Int).toNat) * szOf Tryz.prog 3))) (z28.1.2.1 - ((1 : Int).toNat)) (z28.1.2.2 - ((1 : Int).toNat))), (sv A40 n41 c42)]) w39 fun v43 w44 => ∃ (A45 : OA) (n46 c47 : Nat), v43 = .slice A45 n46 c47 ∧ next30 ((A45, n46, c47), ()) w44)))))))) (K (sv (some (bx g21)) ((wrap .i64 (((n0 : Nat) : Int) + 1)).toNat) ((wrap .i64 (((n0 : Nat) : Int) + 1)).toNat)) w29)) ((A25, n26, c27), ()) w24)

def qcx.ann : Ann := (.seq .l (.seq .l (.seq .l (.seq (.one (.loop [(8, .sl)] (.seq (.seq .l (.two .l .l)) (.one (.seq .l (.seq .l (.seq (.seq .l (.two .l .l)) (.seq .l .l)))))))) (.seq .l .l)))))

theorem qcx.con {xs0 : List D.Ins} {A0 A1 : OA} {c0 c1 : Nat} {xs1 : List Int} {x2 : Int} {r : List Bool} {w : World} (hp : M.qfc xs0 xs1 x2) (hr : r = M.qcx xs0 xs1 x2) (R0 : Row el84 w A0 xs0) (hc0 : xs0.length ≤ c0) (R1 : Row el3 w A1 xs1) (hc1 : xs1.length ≤ c1) :
    Cl 150 #[(sv A0 xs0.length c0), (sv A1 xs1.length c1), (iv x2)] w (fun v_ w_ => ∃ (A0_ : OA) (c0_ : Nat), v_ = (sv A0_ r.length c0_) ∧ Own el4 w_ w.heap.size A0_ c0_ r ∧ Ext w w_) := by
 have H := wp.qcx.math xs0 xs1 x2 hp
 have hB := Ext.refl w
 refine begK mixed Tryz.f150 ann (vc A0 xs0.length c0 A1 xs1.length c1 x2) ?_
 unfold vc
 unfold wp.qcx at H
 obtain ⟨⟨h0_24, h1_25⟩, H⟩ := H
 refine qfZ qnh h0_24 h1_25 (fun g21 w22 P3 e23 => ?_)
 have O3 := P3.mono hB.size
 have hB := qa5 hB e23
 obtain ⟨hp28, H⟩ := H
 obtain ⟨r26, hr27, H⟩ := qad H
 refine (qao.con hp28 hr27 (R1.ext hB) hc1).mono ?_
 rintro _ w29 ⟨A31, c32, rfl, P4, e30⟩
 have O3 := O3.ext e30
 have O4 := P4.mono hB.size
 have hB := qa5 hB e30
 refine ⟨A31, r26.length, c32, rfl, ?_⟩
 obtain ⟨J85, ⟨m135, hJ134⟩, hS86⟩ := H
 refine ⟨fun m_ z_ w_ => ∃ (xs79 : List Int) (xs82 : List Bool) (A80 : OA) (c81 : Nat), z_ = ((A80, xs79.length, c81), ()) ∧ J85 m_ (xs79, xs82, ()) ∧ Ext w w_ ∧ Own el3 w_ w.heap.size A80 c81 xs79 ∧ Own el4 w_ w.heap.size (some (bx g21)) ((wrap .i64 ((xs0.length : Int) + 1)).toNat) xs82 ∧ ((wrap .i64 ((xs0.length : Int) + 1)).toNat) = xs82.length, ⟨m135, r26, (List.replicate ((wrap .i64 ((xs0.length : Int) + 1)).toNat) (default : Bool)), A31, c32, rfl, hJ134, hB, O4, O3, (by first | rfl | assumption | omega | (simp; done) | (simp; omega) | (simp; assumption))⟩, ?_⟩
 rintro m84 _ w88 ⟨xs79, xs82, A80, c81, rfl, hJ136, hB, O8, O3, hn83⟩
 have H := hS86 m84 _ hJ136
 clear hS86 hJ136
 try dsimp only at H ⊢
 refine brc H (fun h H => ?_) fun h H => ?_
 ·obtain ⟨⟨h0_92, h1_93⟩, H⟩ := H
  obtain ⟨a90, ha91, hat89⟩ := Row.at O8.row h0_92 h1_93
  refine ⟨h0_92, h1_93, a90, ha91, _, (hat89 0 _ rfl), ?_⟩
  obtain ⟨⟨hl94, hl95⟩, H⟩ := H
  refine and_assoc.1 ⟨⟨hl94, hl95⟩, ?_⟩
  rw [show (xs79.length - ((1 : Int).toNat)) = ((List.drop ((1 : Int).toNat) xs79)).length from by first | rfl | (simp; done) | (simp; omega)]
  have O9 := (O8.drop (l := ((1 : Int).toNat)) (by first | omega | (simp; done) | (simp; omega)))
  refine brc H (fun h H => ?_) fun h H => ?_
  ·obtain ⟨m96, hm97, hJ98⟩ := H
   exact ⟨m96, hm97, _, xs82, _, _, rfl, hJ98, hB, O9, O3, (by first | rfl | assumption | omega | (simp; done) | (simp; omega) | (simp; assumption))⟩
  obtain ⟨⟨h0_102, h1_103⟩, H⟩ := H
  obtain ⟨a100, ha101, hat99⟩ := Row.at O3.row h0_102 h1_103
  refine ⟨h0_102, (by first | exact h1_103 | omega | (simp at h1_103 ⊢; omega)), a100, ha101, _, (hat99 0 _ rfl), ?_⟩
  refine brc H (fun h H => ?_) fun h H => ?_
  ·obtain ⟨m104, hm105, hJ106⟩ := H
   exact ⟨m104, hm105, _, xs82, _, _, rfl, hJ106, hB, O9, O3, (by first | rfl | assumption | omega | (simp; done) | (simp; omega) | (simp; assumption))⟩
  obtain ⟨⟨h0_110, h1_111⟩, H⟩ := H
  obtain ⟨a108, ha109, hat107⟩ := Row.at O3.row h0_110 h1_111
  refine ⟨h0_110, (by first | exact h1_111 | omega | (simp at h1_111 ⊢; omega)), a108, ha109, ?_⟩
  refine Own.stA O3 ha109 h0_110 h1_111 0 true (fun w112 P3 e113 hb114 => ?_)
  have O8_ := O8.chg e113 (((Own.qaq O8 O3 (by decide))).left ha109)
  have O9 := O9.chg e113 (((qh6 (Own.qaq O8 O3 (by decide)))).left ha109)
  have hB := echg hB e113 hb114
  obtain ⟨hp117, H⟩ := H
  obtain ⟨r115, hr116, H⟩ := qad H
  refine (qdr.con hp117 hr116 (R0.ext hB) hc0).mono ?_
  rintro _ w118 ⟨A120, c121, rfl, P10, e119⟩
  have O3 := P3.ext e119
  have O8 := O8_.ext e119
  have O9 := O9.ext e119
  have O10 := P10.mono hB.size
  have hB := qa5 hB e119
  refine ⟨A120, r115.length, c121, rfl, ?_⟩
  obtain ⟨hl126, H⟩ := H
  refine appO qdZ O9 O10.row hB.size hl126 (fun A122 c123 w124 P9 e125 => ?_)
  have O3 := O3.app e125 (qh6 (Own.qaq O3 O8 (by decide)).symm).symm
  have hB := eapp hB e125 O9
  have O9 := P9
  obtain ⟨m127, hm128, hJ129⟩ := H
  exact ⟨m127, hm128, _, _, A122, c123, rfl, hJ129, hB, O9, O3, (by first | rfl | assumption | omega | (simp; done) | (simp; omega) | (simp; assumption))⟩
 cases hr.trans H.symm
 exact ⟨(some (bx g21)), ((wrap .i64 ((xs0.length : Int) + 1)).toNat), (by first | rfl | (rw [hn83]; done) | (simp; done) | (simp; omega) | (simp [*]; done)), (by first | exact O3 | (simp only [bC, wC, List.length_set]; exact O3) | (rw [← hn83]; exact O3)), hB⟩
def qbA.vc (A0 : OA) (n0 c0 : Nat) (x1 : Int) (w : World) (K : VK) : Prop :=
  Run Tryz.prog (Instr.buildSlice 24 1 #[(0, (iv x1))]) w fun v21 w22 => ∃ (A23 : OA) (n24 c25 : Nat), v21 = .slice A23 n24 c25 ∧ Cl 150 #[(sv A0 n0 c0), (sv A23 n24 c25), (iv (-1))] w22 fun v26 w27 => (∃ (A28 : OA) (n29 c30 : Nat), v26 = (sv A28 n29 c30) ∧ (idx ((n0 : Nat) : Int) n29 A28 fun a31 => ∃ (b32 : Bool), w27.cell? ((a31.add ((((n0 : Nat) : Int).toNat) * 1)).add 0) = some (.bool b32) ∧ K (.bool b32) w27))

def qbA.ann : Ann := (.seq .l (.seq .l .l))

theorem qbA.con {xs0 : List D.Ins} {A0 : OA} {c0 : Nat} {x1 : Int} {r : Bool} {w : World} (hp : M.qek xs0 x1) (hr : r = M.qbA xs0 x1) (R0 : Row el84 w A0 xs0) (hc0 : xs0.length ≤ c0) :
    Cl 183 #[(sv A0 xs0.length c0), (iv x1)] w (fun v_ w_ => v_ = (.bool r) ∧ Ext w w_) := by
 have H := wp.qbA.math xs0 x1 hp
 have hB := Ext.refl w
 refine begK mixed Tryz.f183 ann (vc A0 xs0.length c0 x1) ?_
 unfold vc
 unfold wp.qbA at H
 refine qap el3 ([x1] : List Int) (fun _ => by kernel_rfl) rfl (fun A21 w22 P2 e23 => ?_)
 have O2 := P2.mono hB.size
 have hB := qa5 hB e23
 obtain ⟨hp26, H⟩ := H
 obtain ⟨r24, hr25, H⟩ := qad H
 refine (cllA (qcx.con hp26 hr25 (R0.ext hB) hc0 O2.row O2.le)).mono ?_
 rintro _ w27 ⟨A29, c30, rfl, P3, e28⟩
 have O3 := P3.mono hB.size
 have hB := qa5 hB e28
 refine ⟨A29, r24.length, c30, rfl, ?_⟩
 obtain ⟨⟨h0_34, h1_35⟩, H⟩ := H
 obtain ⟨a32, ha33, hat31⟩ := Row.at O3.row h0_34 h1_35
 refine ⟨h0_34, h1_35, a32, ha33, _, (hat31 0 _ rfl), ?_⟩
 cases hr.trans H.symm
 exact ⟨rfl, hB⟩
def qd1.vc (A0 : OA) (n0 c0 : Nat) (x1 : Int) (w : World) (K : VK) : Prop :=
  Cl 75 #[(sv A0 n0 c0)] w fun v21 w22 => (∃ (b23 : Bool), v21 = (.bool b23) ∧ qa1 b23 (Cl 78 #[(iv x1), (iv 0), (iv ((n0 : Nat) : Int))] w22 fun v24 w25 => (∃ (b26 : Bool), v24 = (.bool b26) ∧ K (.bool b26) w25)) (K (.bool false) w22))

def qd1.ann : Ann := (.seq .l (.seq .l .l))

theorem qd1.con {xs0 : List D.Ins} {A0 : OA} {c0 : Nat} {x1 : Int} {r : Bool} {w : World} (hp : M.qfE xs0 x1) (hr : r = M.qd1 xs0 x1) (R0 : Row el84 w A0 xs0) (hc0 : xs0.length ≤ c0) :
    Cl 249 #[(sv A0 xs0.length c0), (iv x1)] w (fun v_ w_ => v_ = (.bool r) ∧ Ext w w_) := by
 have H := wp.qd1.math xs0 x1 hp
 have hB := Ext.refl w
 refine begK mixed Tryz.f249 ann (vc A0 xs0.length c0 x1) ?_
 unfold vc
 unfold wp.qd1 at H
 obtain ⟨hp23, H⟩ := H
 obtain ⟨r21, hr22, H⟩ := qad H
 refine (qbe.con hp23 hr22 (R0.ext hB) hc0).mono ?_
 rintro _ w24 ⟨rfl, e25⟩
 have hB := qa5 hB e25
 refine ⟨r21, rfl, ?_⟩
 refine brc H (fun h H => ?_) fun h H => ?_
 ·obtain ⟨r26, hr27, H⟩ := qad H
  refine (qar.con hr27 ).mono ?_
  rintro _ w29 ⟨rfl, e30⟩
  have hB := qa5 hB e30
  refine ⟨r26, rfl, ?_⟩
  cases hr.trans H.symm
  exact ⟨rfl, hB⟩
 cases hr.trans H.symm
 exact ⟨rfl, hB⟩
def qcl.vc (A0 : OA) (n0 c0 : Nat) (x1 x2 : Int) (w : World) (K : VK) : Prop :=
  Cl 183 #[(sv A0 n0 c0), (iv x1)] w fun v21 w22 => (∃ (b23 : Bool), v21 = (.bool b23) ∧ qa1 b23 (Run Tryz.prog (Instr.buildSlice 24 1 #[(0, (iv x1))]) w22 fun v24 w25 => ∃ (A26 : OA) (n27 c28 : Nat), v24 = .slice A26 n27 c28 ∧ Cl 150 #[(sv A0 n0 c0), (sv A26 n27 c28), (iv x2)] w25 fun v29 w30 => (∃ (A31 : OA) (n32 c33 : Nat), v29 = (sv A31 n32 c33) ∧ (idx ((n0 : Nat) : Int) n32 A31 fun a34 => ∃ (b35 : Bool), w30.cell? ((a34.add ((((n0 : Nat) : Int).toNat) * 1)).add 0) = some (.bool b35) ∧ K (.bool (!b35)) w30))) (K (.bool false) w22))

def qcl.ann : Ann := (.seq .l (.seq .l .l))

theorem qcl.con {xs0 : List D.Ins} {A0 : OA} {c0 : Nat} {x1 x2 : Int} {r : Bool} {w : World} (hp : M.qf9 xs0 x1 x2) (hr : r = M.qcl xs0 x1 x2) (R0 : Row el84 w A0 xs0) (hc0 : xs0.length ≤ c0) :
    Cl 239 #[(sv A0 xs0.length c0), (iv x1), (iv x2)] w (fun v_ w_ => v_ = (.bool r) ∧ Ext w w_) := by
 have H := wp.qcl.math xs0 x1 x2 hp
 have hB := Ext.refl w
 refine begK mixed Tryz.f239 ann (vc A0 xs0.length c0 x1 x2) ?_
 unfold vc
 unfold wp.qcl at H
 obtain ⟨hp23, H⟩ := H
 obtain ⟨r21, hr22, H⟩ := qad H
 refine (qbA.con hp23 hr22 (R0.ext hB) hc0).mono ?_
 rintro _ w24 ⟨rfl, e25⟩
 have hB := qa5 hB e25
 refine ⟨r21, rfl, ?_⟩
 refine brc H (fun h H => ?_) fun h H => ?_
 ·refine qap el3 ([x1] : List Int) (fun _ => by kernel_rfl) rfl (fun A26 w27 P2 e28 => ?_)
  have O2 := P2.mono hB.size
  have hB := qa5 hB e28
  obtain ⟨hp31, H⟩ := H
  obtain ⟨r29, hr30, H⟩ := qad H
  refine (cllA (qcx.con hp31 hr30 (R0.ext hB) hc0 O2.row O2.le)).mono ?_
  rintro _ w32 ⟨A34, c35, rfl, P3, e33⟩
  have O3 := P3.mono hB.size
  have hB := qa5 hB e33
  refine ⟨A34, r29.length, c35, rfl, ?_⟩
  obtain ⟨⟨h0_39, h1_40⟩, H⟩ := H
  obtain ⟨a37, ha38, hat36⟩ := Row.at O3.row h0_39 h1_40
  refine ⟨h0_39, h1_40, a37, ha38, _, (hat36 0 _ rfl), ?_⟩
  cases hr.trans H.symm
  exact ⟨rfl, hB⟩
 cases hr.trans H.symm
 exact ⟨rfl, hB⟩
def qbF.vc (A0 : OA) (n0 c0 : Nat) (x1 x2 : Int) (w : World) (K : VK) : Prop :=
  Cl 249 #[(sv A0 n0 c0), (iv x1)] w fun v21 w22 => (∃ (b23 : Bool), v21 = (.bool b23) ∧ qa1 b23 (Cl 249 #[(sv A0 n0 c0), (iv x2)] w22 fun v24 w25 => (∃ (b26 : Bool), v24 = (.bool b26) ∧ qa1 b26 (Cl 239 #[(sv A0 n0 c0), (iv x1), (iv x2)] w25 fun v27 w28 => (∃ (b29 : Bool), v27 = (.bool b29) ∧ K (.bool b29) w28)) (K (.bool false) w25))) (K (.bool false) w22))

def qbF.ann : Ann := (.seq .l (.seq .l .l))

theorem qbF.con {xs0 : List D.Ins} {A0 : OA} {c0 : Nat} {x1 x2 : Int} {r : Bool} {w : World} (hp : M.qgk xs0 x1 x2) (hr : r = M.qbF xs0 x1 x2) (R0 : Row el84 w A0 xs0) (hc0 : xs0.length ≤ c0) :
    Cl 240 #[(sv A0 xs0.length c0), (iv x1), (iv x2)] w (fun v_ w_ => v_ = (.bool r) ∧ Ext w w_) := by
 have H := wp.qbF.math xs0 x1 x2 hp
 have hB := Ext.refl w
 refine begK mixed Tryz.f240 ann (vc A0 xs0.length c0 x1 x2) ?_
 unfold vc
 unfold wp.qbF at H
 obtain ⟨hp23, H⟩ := H
 obtain ⟨r21, hr22, H⟩ := qad H
 refine (qd1.con hp23 hr22 (R0.ext hB) hc0).mono ?_
 rintro _ w24 ⟨rfl, e25⟩
 have hB := qa5 hB e25
 refine ⟨r21, rfl, ?_⟩
 refine brc H (fun h H => ?_) fun h H => ?_
 ·obtain ⟨hp28, H⟩ := H
  obtain ⟨r26, hr27, H⟩ := qad H
  refine (qd1.con hp28 hr27 (R0.ext hB) hc0).mono ?_
  rintro _ w29 ⟨rfl, e30⟩
  have hB := qa5 hB e30
  refine ⟨r26, rfl, ?_⟩
  refine brc H (fun h H => ?_) fun h H => ?_
  ·obtain ⟨hp33, H⟩ := H
   obtain ⟨r31, hr32, H⟩ := qad H
   refine (qcl.con hp33 hr32 (R0.ext hB) hc0).mono ?_
   rintro _ w34 ⟨rfl, e35⟩
   have hB := qa5 hB e35
   refine ⟨r31, rfl, ?_⟩
   cases hr.trans H.symm
   exact ⟨rfl, hB⟩
  cases hr.trans H.symm
  exact ⟨rfl, hB⟩
 cases hr.trans H.symm
 exact ⟨rfl, hB⟩
def qbS.vc (A0 : OA) (n0 c0 : Nat) (x1 : Int) (w : World) (K : VK) : Prop :=
  Run Tryz.prog (Instr.buildSlice 24 0 #[]) w fun v21 w22 => ∃ (A23 : OA) (n24 c25 : Nat), v21 = .slice A23 n24 c25 ∧ qdA (σ := (OA × Nat × Nat) × Int × Unit) (fun z26 w27 next28 => qa1 (decide (z26.2.1 < (wrap .i64 (((n0 : Nat) : Int) + 1)))) (Cl 240 #[(sv A0 n0 c0), (iv x1), (iv z26.2.1)] w27 fun v29 w30 => (∃ (b31 : Bool), v29 = (.bool b31) ∧ qa1 b31 (Run Tryz.prog (Instr.buildSlice 24 1 #[(0, (iv z26.2.1))]) w30 fun v32 w33 => ∃ (A34 : OA) (n35 c36 : Nat), v32 = .slice A34 n35 c36 ∧ Run Tryz.prog (Builtin.append_ #[24, 24] 24 #[(sv z26.1.1 z26.1.2.1 z26.1.2.2), (sv A34 n35 c36)]) w33 fun v37 w38 => ∃ (A39 : OA) (n40 c41 : Nat), v37 = .slice A39 n40 c41 ∧ next28 ((A39, n40, c41), (wrap .i64 (z26.2.1 + 1)), ()) w38) (next28 ((z26.1.1, z26.1.2.1, z26.1.2.2), (wrap .i64 (z26.2.1 + 1)), ()) w30))) (K (sv z26.1.1 z26.1.2.1 z26.1.2.2) w27)) ((A23, n24, c25), 0, ()) w22

def qbS.ann : Ann := (.seq .l (.seq .l (.seq (.seq .l (.one (.loop [(5, .sl), (11, .int .i64)] (.seq .l (.seq (.two .l .l) (.seq (.one (.seq .l (.seq .l (.two .l .l)))) .l)))))) (.seq .l .l))))

theorem qbS.con {xs0 : List D.Ins} {A0 : OA} {c0 : Nat} {x1 : Int} {r : List Int} {w : World} (hp : M.qg8 xs0 x1) (hr : r = M.qbS xs0 x1) (R0 : Row el84 w A0 xs0) (hc0 : xs0.length ≤ c0) :
    Cl 213 #[(sv A0 xs0.length c0), (iv x1)] w (fun v_ w_ => ∃ (A0_ : OA) (c0_ : Nat), v_ = (sv A0_ r.length c0_) ∧ Own el3 w_ w.heap.size A0_ c0_ r ∧ Ext w w_) := by
 have H := wp.qbS.math xs0 x1 hp
 have hB := Ext.refl w
 refine begK mixed Tryz.f213 ann (vc A0 xs0.length c0 x1) ?_
 unfold vc
 unfold wp.qbS at H
 refine qap el3 ([] : List Int) (fun _ => by kernel_rfl) rfl (fun A21 w22 P2 e23 => ?_)
 have O2 := P2.mono hB.size
 have hB := qa5 hB e23
 obtain ⟨J29, ⟨m56, hJ55⟩, hS30⟩ := H
 refine ⟨fun m_ z_ w_ => ∃ (xs24 : List Int) (i27 : Int) (A25 : OA) (c26 : Nat), z_ = ((A25, xs24.length, c26), i27, ()) ∧ J29 m_ (xs24, i27, ()) ∧ Ext w w_ ∧ Own el3 w_ w.heap.size A25 c26 xs24, ⟨m56, ([] : List Int), 0, A21, 0, rfl, hJ55, hB, O2⟩, ?_⟩
 rintro m28 _ w32 ⟨xs24, i27, A25, c26, rfl, hJ57, hB, O3⟩
 have H := hS30 m28 _ hJ57
 clear hS30 hJ57
 try dsimp only at H ⊢
 refine brc H (fun h H => ?_) fun h H => ?_
 ·obtain ⟨hp35, H⟩ := H
  obtain ⟨r33, hr34, H⟩ := qad H
  refine (qbF.con hp35 hr34 (R0.ext hB) hc0).mono ?_
  rintro _ w36 ⟨rfl, e37⟩
  have O3 := O3.ext e37
  have hB := qa5 hB e37
  refine ⟨r33, rfl, ?_⟩
  refine brc H (fun h H => ?_) fun h H => ?_
  ·refine qap el3 ([i27] : List Int) (fun _ => by kernel_rfl) rfl (fun A38 w39 P4 e40 => ?_)
   have O3 := O3.ext e40
   have O4 := P4.mono hB.size
   have hB := qa5 hB e40
   obtain ⟨hl45, H⟩ := H
   refine appO qdZ O3 O4.row hB.size hl45 (fun A41 c42 w43 P3 e44 => ?_)
   have hB := eapp hB e44 O3
   have O3 := P3
   obtain ⟨m46, hm47, hJ48⟩ := H
   exact ⟨m46, hm47, _, _, A41, c42, rfl, hJ48, hB, O3⟩
  obtain ⟨m49, hm50, hJ51⟩ := H
  exact ⟨m49, hm50, xs24, _, A25, c26, rfl, hJ51, hB, O3⟩
 cases hr.trans H.symm
 exact ⟨A25, c26, rfl, O3, hB⟩
def qby.vc (x0 : Int) (p1 : Addr) (w : World) (K : VK) : Prop :=
  ldI w (p1.add 0) fun n21 => K (.bool (x0 == n21)) w

def qby.ann : Ann := (.seq .l (.seq .l .l))

theorem qby.con {x0 x1 : Int} {g1_ : Nat} {r : Bool} {w : World} (hp : M.qeM x0 x1) (hr : r = M.qby x0 x1) (O1 : Blk w g1_ 3 #[(iv x1)]) :
    Cl 214 #[(iv x0), (.pointer (some (bx g1_)))] w (fun v_ w_ => v_ = (.bool r) ∧ Ext w w_) := by
 have H := wp.qby.math x0 x1 hp
 have hB := Ext.refl w
 refine begK mixed Tryz.f214 ann (vc x0 (bx g1_)) ?_
 unfold vc
 unfold wp.qby at H
 refine ⟨_, (O1.a 0), ?_⟩
 cases hr.trans H.symm
 exact ⟨rfl, hB⟩
def qaw.vc (A0 : OA) (n0 c0 f1 : Nat) (cap1 : Array Value) (w : World) (K : VK) : Prop :=
  Cl 146 #[(sv A0 n0 c0), (.func (.func f1) #[] cap1)] w fun v21 w22 => (∃ (n23 : Int), v21 = (iv n23) ∧ qa1 (n23 == (-1)) (K (sv A0 n0 c0) w22) (qdA (σ := Int × Int × Unit) (fun z24 w25 next26 => qa1 (decide (z24.2.1 < ((n0 : Nat) : Int))) ((idx z24.2.1 n0 A0 fun a27 => ldI w25 ((a27.add ((z24.2.1.toNat) * 1)).add 0) fun n28 => Cl f1 (#[(iv n28)] ++ cap1) w25 fun v29 w30 => (∃ (b31 : Bool), v29 = (.bool b31) ∧ qa1 (!b31) ((idx z24.1 n0 A0 fun a32 => qa7 (a32.add ((z24.1.toNat) * 1)) [(iv n28)] 0 w30 fun w33 => next26 ((wrap .i64 (z24.1 + 1)), (wrap .i64 (z24.2.1 + 1)), ()) w33)) (next26 (z24.1, (wrap .i64 (z24.2.1 + 1)), ()) w30)))) (((0 : Int) ≤ z24.1 ∧ z24.1 ≤ ((n0 : Nat) : Int) ∧ Run Tryz.prog (Builtin.clear_ #[24] 0 #[(sv (if c0 = (z24.1.toNat) then A0 else A0.map (·.add ((z24.1.toNat) * szOf Tryz.prog 3))) (n0 - (z24.1.toNat)) (c0 - (z24.1.toNat)))]) w25 fun v34 w35 => v34 = .tuple #[] ∧ ((0 : Int) ≤ z24.1 ∧ z24.1 ≤ ((c0 : Nat) : Int) ∧ K (sv A0 (z24.1.toNat) c0) w35)))) (n23, (wrap .i64 (n23 + 1)), ()) w22))

def qaw.ann : Ann := (.seq .l (.seq .l (.seq (.seq .l (.two (.seq .l .l) .l)) (.seq (.seq .l (.one (.loop [(5, .int .i64), (6, .int .i64)] (.seq (.seq .l (.two .l .l)) (.seq (.one (.seq .l (.seq .l (.two (.seq .l .l) .l)))) .l))))) (.seq .l (.seq .l .l))))))

theorem qaw.start {A0 : OA} {n0 c0 f1 : Nat} {cap1 : Array Value} {w : World} {K : Value → World → Prop} (h : qaw.vc A0 n0 c0 f1 cap1 w K) : Cl 212 #[(sv A0 n0 c0), (.func (.func f1) #[] cap1)] w K :=
  qex mixed (fn := Tryz.f212) (by kernel_rfl) (by kernel_rfl) (an := qaw.ann) (args := [(sv A0 n0 c0), (.func (.func f1) #[] cap1)]) (Eq.mpr (by kernel_rfl) h)

theorem qaw.con {xs0 r : List Int} {A0 : OA} {c0 f1 : Nat} {cap1 : Array Value} {g1 : Int → Bool} {D1 : Int → Prop} {w : World} (hp : M.qdN xs0 g1 D1) (hr : r = M.qaw xs0 g1) (O1 : Own el3 w 0 A0 c0 xs0) (F1 : ∀ (z0_ : Int), D1 z0_ → ∀ w_ : World, Chg (InB A0) w w_ → Cl f1 (#[(iv z0_)] ++ cap1) w_ (fun v_ w1_ => v_ = (.bool (g1 z0_)) ∧ Ext w_ w1_)) :
    Cl 212 #[(sv A0 xs0.length c0), (.func (.func f1) #[] cap1)] w (fun v_ w_ => ∃ (A0_ : OA) (c0_ : Nat), v_ = (sv A0_ r.length c0_) ∧ Own el3 w_ 0 A0_ c0_ r ∧ Mov w A0 A0_ ∧ Chg (InB A0) w w_) := by
 have H := wp.qaw.math xs0 g1 D1 hp
 have hB := Chg.refl (InB A0) w
 refine qaw.start ?_
 unfold vc
 unfold wp.qaw at H
 obtain ⟨hp23, H⟩ := H
 obtain ⟨r21, hr22, H⟩ := qad H
 refine (qam.con hp23 hr22 O1.row O1.le (fun z0_  h_ w_ e_ => F1 z0_  h_ w_ (hB.then e_))).mono ?_
 rintro _ w24 ⟨rfl, e25⟩
 have O1 := O1.ext e25
 have hB := hB.then e25
 refine ⟨r21, rfl, ?_⟩
 refine brc H (fun h H => ?_) fun h H => ?_
 ·cases hr.trans H.symm
  exact ⟨A0, c0, rfl, (O1.mono (Nat.zero_le _)), (Mov.same _ _), hB⟩
 obtain ⟨J56, ⟨m94, hJ93⟩, hS57⟩ := H
 refine ⟨fun m_ z_ w_ => ∃ (i51 i52 : Int) (xs53 : List Int), z_ = (i51, i52, ()) ∧ J56 m_ (i51, i52, xs53, ()) ∧ Chg (InB A0) w w_ ∧ Own el3 w_ 0 A0 c0 xs53 ∧ xs0.length = xs53.length, ⟨m94, r21, (wrap .i64 (r21 + 1)), xs0, rfl, hJ93, hB, O1, (by first | rfl | assumption | omega | (simp; done) | (simp; omega) | (simp; assumption))⟩, ?_⟩
 rintro m55 _ w59 ⟨i51, i52, xs53, rfl, hJ95, hB, O1, hn54⟩
 have H := hS57 m55 _ hJ95
 clear hS57 hJ95
 try dsimp only at H ⊢
 refine brc H (fun h H => ?_) fun h H => ?_
 ·obtain ⟨⟨h0_63, h1_64⟩, H⟩ := H
  obtain ⟨a61, ha62, hat60⟩ := Row.at O1.row h0_63 h1_64
  refine ⟨h0_63, (by first | exact h1_64 | omega | (simp at h1_64 ⊢; omega)), a61, ha62, _, (hat60 0 _ rfl), ?_⟩
  obtain ⟨hd67, H⟩ := H
  obtain ⟨r65, hr66, H⟩ := qad H
  refine (F1 (rd xs53 i52) hd67 _ hB).mono ?_
  rintro _ w68 ⟨rfl, e69⟩
  rw [← hr66]
  have O1 := O1.ext e69
  have hB := hB.then e69
  refine ⟨r65, rfl, ?_⟩
  refine brc H (fun h H => ?_) fun h H => ?_
  ·obtain ⟨⟨h0_73, h1_74⟩, H⟩ := H
   obtain ⟨a71, ha72, hat70⟩ := Row.at O1.row h0_73 h1_74
   refine ⟨h0_73, (by first | exact h1_74 | omega | (simp at h1_74 ⊢; omega)), a71, ha72, ?_⟩
   refine Own.stA O1 ha72 h0_73 h1_74 0 (rd xs53 i52) (fun w75 O1 e76 hb77 => ?_)
   have hB := hB.chgb e76 (Or.inr ⟨_, ha72, rfl⟩)
   obtain ⟨m78, hm79, hJ80⟩ := H
   exact ⟨m78, hm79, _, _, _, rfl, hJ80, hB, O1, (by first | rfl | assumption | omega | (simp; done) | (simp; omega) | (simp; assumption))⟩
  obtain ⟨m81, hm82, hJ83⟩ := H
  exact ⟨m81, hm82, i51, _, xs53, rfl, hJ83, hB, O1, (by first | rfl | assumption | omega | (simp; done) | (simp; omega) | (simp; assumption))⟩
 obtain ⟨⟨hl85, hl86⟩, H⟩ := H
 refine and_assoc.1 ⟨⟨hl85, (by first | exact hl86 | omega)⟩, ?_⟩
 rw [show (xs0.length - (i51.toNat)) = ((List.drop (i51.toNat) xs53)).length from by first | rfl | (simp; done) | (simp; omega)]
 refine qlW qdZ O1 (l := (i51.toNat)) (by first | omega | (simp; omega)) (by first | rfl | (simp; done) | (simp; omega)) (fun w87 O1 e88 => ?_)
 have hB := hB.app e88 (fun g h_ => (Or.inr h_))
 obtain ⟨⟨hh89, hh90⟩, H⟩ := H
 refine and_assoc.1 ⟨⟨hh89, Int.le_trans hh90 (Int.ofNat_le.2 O1.le)⟩, ?_⟩
 rw [show (i51.toNat) = ((List.take (i51.toNat) (List.take (i51.toNat) xs53 ++ List.replicate (xs53.length - (i51.toNat)) default))).length from by first | rfl | (simp; done) | (simp; omega)]
 have O3 := (O1.take (i51.toNat))
 cases hr.trans H.symm
 exact ⟨A0, c0, rfl, (O3.mono (Nat.zero_le _)), (Mov.same _ _), hB⟩
def qcf.vc (x0 : Int) (p1 p2 : Addr) (w : World) (K : VK) : Prop :=
  ldS w (p1.add 0) fun A21 n22 c23 => ldI w (p2.add 0) fun n24 => Cl 239 #[(sv A21 n22 c23), (iv n24), (iv x0)] w fun v25 w26 => (∃ (b27 : Bool), v25 = (.bool b27) ∧ K (.bool (!b27)) w26)

def qcf.ann : Ann := (.seq .l (.seq .l .l))

theorem qcf.con {x0 x2 : Int} {xs1 : List D.Ins} {g1_ c1_0 g3_ : Nat} {A1_0 : OA} {r : Bool} {w : World} (hp : M.qfD x0 xs1 x2) (hr : r = M.qcf x0 xs1 x2) (O1 : Blk w g1_ 30 #[(sv A1_0 xs1.length c1_0)]) (R1_0 : Row el84 w A1_0 xs1) (hc1_0 : xs1.length ≤ c1_0) (O3 : Blk w g3_ 3 #[(iv x2)]) :
    Cl 238 #[(iv x0), (.pointer (some (bx g1_))), (.pointer (some (bx g3_)))] w (fun v_ w_ => v_ = (.bool r) ∧ Ext w w_) := by
 have H := wp.qcf.math x0 xs1 x2 hp
 have hB := Ext.refl w
 refine begK mixed Tryz.f238 ann (vc x0 (bx g1_) (bx g3_)) ?_
 unfold vc
 unfold wp.qcf at H
 refine ⟨_, _, _, (O1.a 0), _, (O3.a 0), ?_⟩
 obtain ⟨hp23, H⟩ := H
 obtain ⟨r21, hr22, H⟩ := qad H
 refine (qcl.con hp23 hr22 (R1_0.ext hB) hc1_0).mono ?_
 rintro _ w24 ⟨rfl, e25⟩
 have hB := qa5 hB e25
 refine ⟨r21, rfl, ?_⟩
 cases hr.trans H.symm
 exact ⟨rfl, hB⟩
def qdv.vc (A0 : OA) (n0 c0 : Nat) (A1 : OA) (n1 c1 : Nat) (w : World) (K : VK) : Prop :=
  newK w (.cells #[(sv A0 n0 c0)] 30) fun g21 w22 => qdA (σ := Int × Unit) (fun z23 w24 next25 => qa1 (decide (z23.1 < ((n1 : Nat) : Int))) ((idx z23.1 n1 A1 fun a26 => ldI w24 ((a26.add ((z23.1.toNat) * 1)).add 0) fun n27 => newK w24 (.cells #[(iv 0)] 3) fun g28 w29 => qa7 (bx g28) [(iv n27)] 0 w29 fun w30 => Cl 90 #[(sv A1 n1 c1), (.func (.func 238) #[] #[(.pointer (some (bx g21))), (.pointer (some (bx g28)))])] w30 fun v31 w32 => (∃ (b33 : Bool), v31 = (.bool b33) ∧ qa1 (!b33) (ldI w32 ((bx g28).add 0) fun n34 => K (iv n34) w32) (next25 ((wrap .i64 (z23.1 + 1)), ()) w32)))) (K (iv (-1)) w24)) (0, ()) w22

def qdv.ann : Ann := (.seq .l (.seq (.seq .l (.one (.loop [(9, .int .i64)] (.seq .l (.seq (.two .l .l) (.seq (.one (.seq .l (.seq .l (.two (.seq .l .l) .l)))) .l)))))) (.seq .l .l)))

theorem qdv.con {xs0 : List D.Ins} {A0 A1 : OA} {c0 c1 : Nat} {xs1 : List Int} {r : Int} {w : World} (hp : M.qgn xs0 xs1) (hr : r = M.qdv xs0 xs1) (R0 : Row el84 w A0 xs0) (hc0 : xs0.length ≤ c0) (R1 : Row el3 w A1 xs1) (hc1 : xs1.length ≤ c1) :
    Cl 211 #[(sv A0 xs0.length c0), (sv A1 xs1.length c1)] w (fun v_ w_ => v_ = (iv r) ∧ Ext w w_) := by
 have H := wp.qdv.math xs0 xs1 hp
 refine begK mixed Tryz.f211 ann (vc A0 xs0.length c0 A1 xs1.length c1) ?_
 unfold vc
 unfold wp.qdv at H
 refine qax (fun g3_ w21 L3 O3 e22 => ?_)
 have hB := qa5 (Ext.refl w) e22
 obtain ⟨J25, ⟨m50, hJ49⟩, hS26⟩ := H
 refine ⟨fun m_ z_ w_ => ∃ (i23 : Int), z_ = (i23, ()) ∧ J25 m_ (i23, ()) ∧ Ext w w_ ∧ Blk w_ g3_ 30 #[(sv A0 xs0.length c0)], ⟨m50, 0, rfl, hJ49, hB, O3⟩, ?_⟩
 rintro m24 _ w28 ⟨i23, rfl, hJ51, hB, O3⟩
 have H := hS26 m24 _ hJ51
 clear hS26 hJ51
 try dsimp only at H ⊢
 refine brc H (fun h H => ?_) fun h H => ?_
 ·obtain ⟨⟨h0_32, h1_33⟩, H⟩ := H
  obtain ⟨a30, ha31, hat29⟩ := Row.at (R1.ext hB) h0_32 h1_33
  refine ⟨h0_32, h1_33, a30, ha31, _, (hat29 0 _ rfl), ?_⟩
  refine qiV #[(iv (rd xs1 i23))] (fun g4_ w36 L4 O4 e37 => ?_)
  have O3 := O3.ext e37
  have hB := qa5 hB e37
  obtain ⟨hp40, H⟩ := H
  obtain ⟨r38, hr39, H⟩ := qad H
  refine (qak.con hp40 hr39 (R1.ext hB) hc1 (fun z0_ h_ w_ e_ => qjj (l1 := [_]) (l2 := [_, _]) (qcf.con h_ rfl (O3.ext e_) (R0.ext (qa5 hB e_)) hc0 (O4.ext e_)))).mono ?_
  rintro _ w41 ⟨rfl, e42⟩
  have O3 := O3.ext e42
  have O4 := O4.ext e42
  have hB := qa5 hB e42
  refine ⟨r38, rfl, ?_⟩
  refine brc H (fun h H => ?_) fun h H => ?_
  ·refine ⟨_, (O4.a 0), ?_⟩
   cases hr.trans H.symm
   exact ⟨rfl, hB⟩
  obtain ⟨m43, hm44, hJ45⟩ := H
  exact ⟨m43, hm44, _, rfl, hJ45, hB, O3⟩
 cases hr.trans H.symm
 exact ⟨rfl, hB⟩
def qc8.vc (A0 : OA) (n0 c0 : Nat) (x1 : Int) (w : World) (K : VK) : Prop :=
  newK w (.cells #[(iv x1)] 3) fun g21 w22 => ldI w22 ((bx g21).add 0) fun n23 => Cl 213 #[(sv A0 n0 c0), (iv n23)] w22 fun v24 w25 => (∃ (A26 : OA) (n27 c28 : Nat), v24 = (sv A26 n27 c28) ∧ Cl 212 #[(sv A26 n27 c28), (.func (.func 214) #[] #[(.pointer (some (bx g21)))])] w25 fun v29 w30 => (∃ (A31 : OA) (n32 c33 : Nat), v29 = (sv A31 n32 c33) ∧ Cl 211 #[(sv A0 n0 c0), (sv A31 n32 c33)] w30 fun v34 w35 => (∃ (n36 : Int), v34 = (iv n36) ∧ K (iv n36) w35)))

def qc8.ann : Ann := (.seq .l (.seq .l .l))

theorem qc8.con {xs0 : List D.Ins} {A0 : OA} {c0 : Nat} {x1 r : Int} {w : World} (hp : M.qfm xs0 x1) (hr : r = M.qc8 xs0 x1) (R0 : Row el84 w A0 xs0) (hc0 : xs0.length ≤ c0) :
    Cl 184 #[(sv A0 xs0.length c0), (iv x1)] w (fun v_ w_ => v_ = (iv r) ∧ Ext w w_) := by
 have H := wp.qc8.math xs0 x1 hp
 refine begK mixed Tryz.f184 ann (vc A0 xs0.length c0 x1) ?_
 unfold vc
 unfold wp.qc8 at H
 refine qax (fun g2_ w21 L2 O2 e22 => ?_)
 have hB := qa5 (Ext.refl w) e22
 refine ⟨_, (O2.a 0), ?_⟩
 obtain ⟨hp25, H⟩ := H
 obtain ⟨r23, hr24, H⟩ := qad H
 refine (qbS.con hp25 hr24 (R0.ext hB) hc0).mono ?_
 rintro _ w26 ⟨A28, c29, rfl, P3, e27⟩
 have N3_2 := P3.qa8 O2.lt
 have O2 := O2.ext e27
 have O3 := P3.mono hB.size
 have hB := qa5 hB e27
 refine ⟨A28, r23.length, c29, rfl, ?_⟩
 obtain ⟨hp32, H⟩ := H
 obtain ⟨r30, hr31, H⟩ := qad H
 refine (qaw.con hp32 hr31 (O3.mono (Nat.zero_le _)) (fun z0_ h_ w_ e_ => qjj (l1 := [_]) (l2 := [_]) (qby.con h_ rfl (O2.chgS e_ (N3_2).inb)))).mono ?_
 rintro _ w33 ⟨A35, c36, rfl, P4, Mv4, e34⟩
 have Lw4 := Mv4.low O3.low hB.size
 have hB := Chg.ext hB e34 O3.low
 have O4 := P4.lift Lw4
 refine ⟨A35, r30.length, c36, rfl, ?_⟩
 obtain ⟨hp39, H⟩ := H
 obtain ⟨r37, hr38, H⟩ := qad H
 refine (qdv.con hp39 hr38 (R0.ext hB) hc0 O4.row O4.le).mono ?_
 rintro _ w40 ⟨rfl, e41⟩
 have hB := qa5 hB e41
 refine ⟨r37, rfl, ?_⟩
 cases hr.trans H.symm
 exact ⟨rfl, hB⟩
def qde.vc (A0 : OA) (n0 c0 : Nat) (x1 : Int) (w : World) (K : VK) : Prop :=
  Cl 148 #[(sv A0 n0 c0), (iv x1)] w fun v21 w22 => (∃ (b23 : Bool), v21 = (.bool b23) ∧ qa1 (!b23) (K (iv (-1)) w22) (Cl 147 #[(sv A0 n0 c0), (iv x1)] w22 fun v24 w25 => (∃ (A26 : OA) (n27 c28 : Nat), v24 = (sv A26 n27 c28) ∧ qdA (σ := Int × Unit) (fun z29 w30 next31 => qa1 (decide (z29.1 < ((n27 : Nat) : Int))) ((idx z29.1 n27 A26 fun a32 => ldI w30 ((a32.add ((z29.1.toNat) * 1)).add 0) fun n33 => Cl 183 #[(sv A0 n0 c0), (iv n33)] w30 fun v34 w35 => (∃ (b36 : Bool), v34 = (.bool b36) ∧ qa1 (!b36) (K (iv ((n0 : Nat) : Int)) w35) (next31 ((wrap .i64 (z29.1 + 1)), ()) w35)))) (Cl 184 #[(sv A0 n0 c0), (iv x1)] w30 fun v37 w38 => (∃ (n39 : Int), v37 = (iv n39) ∧ K (iv n39) w38))) (0, ()) w25)))

def qde.ann : Ann := (.seq .l (.seq (.seq .l (.two (.seq .l .l) .l)) (.seq (.seq .l (.one (.loop [(15, .int .i64)] (.seq .l (.seq (.two .l .l) (.seq (.one (.seq .l (.seq .l (.two (.seq .l .l) .l)))) .l)))))) (.seq .l .l))))

theorem qde.con {xs0 : List D.Ins} {A0 : OA} {c0 : Nat} {x1 r : Int} {w : World} (hp : M.qgL xs0 x1) (hr : r = M.qde xs0 x1) (R0 : Row el84 w A0 xs0) (hc0 : xs0.length ≤ c0) :
    Cl 151 #[(sv A0 xs0.length c0), (iv x1)] w (fun v_ w_ => v_ = (iv r) ∧ Ext w w_) := by
 have H := wp.qde.math xs0 x1 hp
 have hB := Ext.refl w
 refine begK mixed Tryz.f151 ann (vc A0 xs0.length c0 x1) ?_
 unfold vc
 unfold wp.qde at H
 obtain ⟨hp23, H⟩ := H
 obtain ⟨r21, hr22, H⟩ := qad H
 refine (qdc.con hp23 hr22 (R0.ext hB) hc0).mono ?_
 rintro _ w24 ⟨rfl, e25⟩
 have hB := qa5 hB e25
 refine ⟨r21, rfl, ?_⟩
 refine brc H (fun h H => ?_) fun h H => ?_
 ·cases hr.trans H.symm
  exact ⟨rfl, hB⟩
 obtain ⟨hp28, H⟩ := H
 obtain ⟨r26, hr27, H⟩ := qad H
 refine (qdr.con hp28 hr27 (R0.ext hB) hc0).mono ?_
 rintro _ w29 ⟨A31, c32, rfl, P2, e30⟩
 have O2 := P2.mono hB.size
 have hB := qa5 hB e30
 refine ⟨A31, r26.length, c32, rfl, ?_⟩
 obtain ⟨J35, ⟨m61, hJ60⟩, hS36⟩ := H
 refine ⟨fun m_ z_ w_ => ∃ (i33 : Int), z_ = (i33, ()) ∧ J35 m_ (i33, ()) ∧ Ext w w_ ∧ Own el3 w_ w.heap.size A31 c32 r26, ⟨m61, 0, rfl, hJ60, hB, O2⟩, ?_⟩
 rintro m34 _ w38 ⟨i33, rfl, hJ62, hB, O2⟩
 have H := hS36 m34 _ hJ62
 clear hS36 hJ62
 try dsimp only at H ⊢
 refine brc H (fun h H => ?_) fun h H => ?_
 ·obtain ⟨⟨h0_42, h1_43⟩, H⟩ := H
  obtain ⟨a40, ha41, hat39⟩ := Row.at O2.row h0_42 h1_43
  refine ⟨h0_42, h1_43, a40, ha41, _, (hat39 0 _ rfl), ?_⟩
  obtain ⟨hp46, H⟩ := H
  obtain ⟨r44, hr45, H⟩ := qad H
  refine (qbA.con hp46 hr45 (R0.ext hB) hc0).mono ?_
  rintro _ w47 ⟨rfl, e48⟩
  have O2 := O2.ext e48
  have hB := qa5 hB e48
  refine ⟨r44, rfl, ?_⟩
  refine brc H (fun h H => ?_) fun h H => ?_
  ·cases hr.trans H.symm
   exact ⟨rfl, hB⟩
  obtain ⟨m49, hm50, hJ51⟩ := H
  exact ⟨m49, hm50, _, rfl, hJ51, hB, O2⟩
 obtain ⟨hp55, H⟩ := H
 obtain ⟨r53, hr54, H⟩ := qad H
 refine (qc8.con hp55 hr54 (R0.ext hB) hc0).mono ?_
 rintro _ w56 ⟨rfl, e57⟩
 have hB := qa5 hB e57
 refine ⟨r53, rfl, ?_⟩
 cases hr.trans H.symm
 exact ⟨rfl, hB⟩
def qaG.vc (A0 : OA) (n0 c0 : Nat) (x1_0 : Int) (A1_1 : OA) (n1_1 c1_1 : Nat) (A1_2 : OA) (n1_2 c1_2 : Nat) (w : World) (K : VK) : Prop :=
  newK w (.cells #[(iv x1_0), (sv A1_1 n1_1 c1_1), (sv A1_2 n1_2 c1_2)] 52) fun g21 w22 => newK w22 (.cells #[(iv 0), (sv none 0 0), (sv none 0 0)] 52) fun g23 w24 => ldI w24 ((bx g21).add 0) fun n25 => ldS w24 ((bx g21).add 1) fun A26 n27 c28 => ldS w24 ((bx g21).add 2) fun A29 n30 c31 => Cl 221 #[(.agg #[(iv n25), (sv A26 n27 c28), (sv A29 n30 c31)])] w24 fun v32 w33 => (∃ (n34 : Int), True ∧ ∃ (A35 : OA) (n36 c37 : Nat), True ∧ ∃ (A38 : OA) (n39 c40 : Nat), True ∧ v32 = (.agg #[(iv n34), (sv A35 n36 c37), (sv A38 n39 c40)]) ∧ newK w33 (.cells #[(iv 0), (sv none 0 0), (sv none 0 0)] 52) fun g41 w42 => qa7 (bx g41) [(iv n34), (sv A35 n36 c37), (sv A38 n39 c40)] 0 w42 fun w43 => ldS w43 (((bx g41).add 1).add 0) fun A44 n45 c46 => qdA (σ := Int × Unit) (fun z47 w48 next49 => qa1 (decide (z47.1 ≥ 0)) (ldS w48 (((bx g41).add 1).add 0) fun A50 n51 c52 => (idx z47.1 n51 A50 fun a53 => ldI w48 ((a53.add ((z47.1.toNat) * 3)).add 0) fun n54 => ldI w48 ((a53.add ((z47.1.toNat) * 3)).add 1) fun n55 => ldI w48 ((a53.add ((z47.1.toNat) * 3)).add 2) fun n56 => newK w48 (.cells #[(iv 0), (iv 0), (iv 0)] 91) fun g57 w58 => qa7 (bx g57) [(iv n54), (iv n55), (iv n56)] 0 w58 fun w59 => ldI w59 (((bx g57).add 0).add 0) fun n60 => ldI w59 (((bx g57).add 1).add 0) fun n61 => qa1 (n60 != n61) (ldI w59 (((bx g57).add 0).add 0) fun n62 => qa1 (n62 != ((n0 : Nat) : Int)) (ldI w59 ((bx g41).add 0) fun n63 => ldS w59 ((bx g41).add 1) fun A64 n65 c66 => ldS w59 ((bx g41).add 2) fun A67 n68 c69 => qa7 (bx g23) [(iv n63), (sv A64 n65 c66), (sv A67 n68 c69)] 0 w59 fun w70 => ldI w70 ((bx g23).add 0) fun n71 => ldS w70 ((bx g23).add 1) fun A72 n73 c74 => ldS w70 ((bx g23).add 2) fun A75 n76 c77 => K (.agg #[(iv n71), (sv A72 n73 c74), (sv A75 n76 c77)]) w70) (ldS w59 (((bx g41).add 1).add 0) fun A78 n79 c80 => ((0 : Int) ≤ z47.1 ∧ z47.1 ≤ ((c80 : Nat) : Int) ∧ qa7 ((bx g41).add 1) [(sv A78 (z47.1.toNat) c80)] 0 w59 fun w81 => next49 ((wrap .i64 (z47.1 - 1)), ()) w81))) (ldS w59 (((bx g41).add 1).add 0) fun A82 n83 c84 => ((0 : Int) ≤ z47.1 ∧ z47.1 ≤ ((c84 : Nat) : Int) ∧ qa7 ((bx g41).add 1) [(sv A82 (z47.1.toNat) c84)] 0 w59 fun w85 => next49 ((wrap .i64 (z47.1 - 1)), ()) w85)))) (ldI w48 ((bx g41).add 0) fun n86 => ldS w48 ((bx g41).add 1) fun A87 n88 c89 => ldS w48 ((bx g41).add 2) fun A90 n91 c92 => qa7 (bx g23) [(iv n86), (sv A87 n88 c89), (sv A90 n91 c92)] 0 w48 fun w93 => ldI w93 ((bx g23).add 0) fun n94 => ldS w93 ((bx g23).add 1) fun A95 n96 c97 => ldS w93 ((bx g23).add 2) fun A98 n99 c100 => K (.agg #[(iv n94), (sv A95 n96 c97), (sv A98 n99 c100)]) w93)) ((wrap .i64 (((n45 : Nat) : Int) - 1)), ()) w43)

def qaG.ann : Ann := (.seq .l (.seq .l (.seq (.seq .l (.one (.loop [(6, .int .i64)] (.seq (.seq .l (.two .l .l)) (.seq (.one (.seq .l (.seq (.seq .l (.two .l .l)) .l))) .l))))) (.seq .l .l))))

theorem qaG.con {xs0 : List D.Ins} {A0 A1_1 A1_2 : OA} {c0 c1_1 c1_2 : Nat} {s1 r : D.Warp} {w : World} (hp : M.qcO xs0 s1) (hr : r = M.qaG xs0 s1) (R0 : Row el84 w A0 xs0) (hc0 : xs0.length ≤ c0) (R1_1 : Row el91 w A1_1 s1.Frames) (hc1_1 : s1.Frames.length ≤ c1_1) (R1_2 : Row el3 w A1_2 s1.Regs) (hc1_2 : s1.Regs.length ≤ c1_2) :
    Cl 202 #[(sv A0 xs0.length c0), (.agg (wC A1_1 c1_1 A1_2 c1_2 s1))] w (fun v_ w_ => ∃ (A0_ : OA) (c0_ : Nat) (A1_ : OA) (c1_ : Nat), v_ = (.agg (wC A0_ c0_ A1_ c1_ r)) ∧ Own el91 w_ w.heap.size A0_ c0_ r.Frames ∧ Own el3 w_ w.heap.size A1_ c1_ r.Regs ∧ Ext w w_) := by
 have H := wp.qaG.math xs0 s1 hp
 refine begK mixed Tryz.f202 ann (vc A0 xs0.length c0 s1.Number A1_1 s1.Frames.length c1_1 A1_2 s1.Regs.length c1_2) ?_
 unfold vc
 unfold wp.qaG at H
 refine qax (fun g4_ w21 L4 O4 e22 => ?_)
 have hB := qa5 (Ext.refl w) e22
 refine qax (fun g5_ w23 L5 P5 e24 => ?_)
 have O4 := O4.ext e24
 have O5 := P5
 have L5 := Nat.le_trans hB.size L5
 have hB := qa5 hB e24
 refine ⟨_, (O4.a 0), _, _, _, (O4.a 1), _, _, _, (O4.a 2), ?_⟩
 obtain ⟨hp27, H⟩ := H
 obtain ⟨r25, hr26, H⟩ := qad H
 refine (qbZ.con hp27 hr26 (R1_1.ext hB) hc1_1 (R1_2.ext hB) hc1_2).mono ?_
 rintro _ w28 ⟨A30, c31, A32, c33, rfl, P6, P7, e29⟩
 have N7_5 := P7.qa8 O5.lt
 have O5 := O5.ext e29
 have O6 := P6.mono hB.size
 have O7 := P7.mono hB.size
 have hB := qa5 hB e29
 refine ⟨r25.Number, trivial, A30, r25.Frames.length, c31, trivial, A32, r25.Regs.length, c33, trivial, rfl, ?_⟩
 refine qax (fun g8_ w34 L8 P8 e35 => ?_)
 have N5_8 := O5.ne L8
 have N6_8 := O6.qag L8
 have N7_8 := O7.qag L8
 have O7 := O7.ext e35
 have O8 := P8
 have L8 := Nat.le_trans hB.size L8
 have hB := qa5 hB e35
 refine stB O8 0 (wC A30 c31 A32 c33 r25) (fun w36 P8 e37 => ?_)
 have O5 := (O5.ext e35).chg e37 N5_8
 have O6 := (O6.ext e35).chg e37 N6_8
 have O7_ := O7.chg e37 N7_8
 have O7 := O7_
 have hB := echg hB e37 L8
 have O8 := P8
 refine ⟨_, _, _, (O8.a 1), ?_⟩
 obtain ⟨J87, ⟨m123, hJ122⟩, hS88⟩ := H
 refine ⟨fun m_ z_ w_ => ∃ (i81 i82 : Int) (xs83 : List D.Frame) (A84 : OA) (c85 : Nat), z_ = (i81, ()) ∧ J87 m_ (i81, i82, xs83, ()) ∧ Ext w w_ ∧ Blk w_ g8_ 52 #[(iv i82), (sv A84 xs83.length c85), (sv A32 r25.Regs.length c33)] ∧ Own el91 w_ w.heap.size A84 c85 xs83 ∧ Blk w_ g5_ 52 #[(iv 0), (sv none 0 0), (sv none 0 0)] ∧ Own el3 w_ w.heap.size A32 c33 r25.Regs, ⟨m123, (wrap .i64 ((r25.Frames.length : Int) - 1)), r25.Number, r25.Frames, A30, c31, rfl, hJ122, hB, O8, O6, O5, O7⟩, ?_⟩
 rintro m86 _ w90 ⟨i81, i82, xs83, A84, c85, rfl, hJ124, hB, O8, O13, O5, O7⟩
 have H := hS88 m86 _ hJ124
 clear hS88 hJ124
 try dsimp only at H ⊢
 refine brc H (fun h H => ?_) fun h H => ?_
 ·refine ⟨_, _, _, (O8.a 1), ?_⟩
  obtain ⟨⟨h0_94, h1_95⟩, H⟩ := H
  obtain ⟨a92, ha93, hat91⟩ := Row.at O13.row h0_94 h1_95
  refine ⟨h0_94, h1_95, a92, ha93, _, (hat91 0 _ rfl), _, (hat91 1 _ rfl), _, (hat91 2 _ rfl), ?_⟩
  refine qax (fun g14_ w96 L14 P14 e97 => ?_)
  have N5_14 := O5.ne L14
  have N7_14 := O7.qag L14
  have N8_14 := O8.ne L14
  have N13_14 := O13.qag L14
  have O5 := O5.ext e97
  have O7 := O7.ext e97
  have O13 := O13.ext e97
  have O14 := P14
  have L14 := Nat.le_trans hB.size L14
  have hB := qa5 hB e97
  refine qbI O14 (o := 0) (cs' := #[(iv ((rd xs83 i81).Pc)), (iv ((rd xs83 i81).Stop)), (iv ((rd xs83 i81).Mask))]) rfl rfl (Nat.le_of_ble_eq_true rfl) rfl (fun w98 O14 e99 => ?_)
  have O5_ := O5.chg e99 N5_14
  have O7_ := O7.chg e99 N7_14
  have O8 := (O8.ext e97).chg e99 N8_14
  have O13_ := O13.chg e99 N13_14
  have O5 := O5_
  have O7 := O7_
  have O13 := O13_
  have hB := echg hB e99 L14
  refine ⟨_, (O14.a 0), _, (O14.a 1), ?_⟩
  refine brc H (fun h H => ?_) fun h H => ?_
  ·refine ⟨_, (O14.a 0), ?_⟩
   refine brc H (fun h H => ?_) fun h H => ?_
   ·refine ⟨_, (O8.a 0), _, _, _, (O8.a 1), _, _, _, (O8.a 2), ?_⟩
    refine stB O5 0 #[(iv i82), (sv A84 xs83.length c85), (sv A32 r25.Regs.length c33)] (fun w100 P5 e101 => ?_)
    have O7 := O7.chg e101 N7_5
    have O13 := O13.chg e101 (O13.qa6 O5 (by decide))
    have hB := echg hB e101 L5
    have O5 := P5
    refine ⟨_, (O5.a 0), _, _, _, (O5.a 1), _, _, _, (O5.a 2), ?_⟩
    cases hr.trans H.symm
    exact ⟨A84, c85, A32, c33, rfl, O13, O7, hB⟩
   refine ⟨_, _, _, (O8.a 1), ?_⟩
   obtain ⟨⟨hh102, hh103⟩, H⟩ := H
   refine and_assoc.1 ⟨⟨hh102, Int.le_trans hh103 (Int.ofNat_le.2 O13.le)⟩, ?_⟩
   rw [show (i81.toNat) = ((List.take (i81.toNat) xs83)).length from by first | rfl | (simp; done) | (simp; omega)]
   refine stB O8 1 #[(iv i82), (sv A84 (((List.take (i81.toNat) xs83)).length) c85), (sv A32 r25.Regs.length c33)] (fun w104 P8 e105 => ?_)
   have O5 := O5.chg e105 N5_8
   have O7 := O7.chg e105 N7_8
   have O15 := ((O13.take (i81.toNat))).chg e105 (O13.qa6 O8 (by decide))
   have hB := echg hB e105 L8
   have O8 := P8
   obtain ⟨m106, hm107, hJ108⟩ := H
   exact ⟨m106, hm107, _, i82, _, A84, c85, rfl, hJ108, hB, O8, O15, O5, O7⟩
  refine ⟨_, _, _, (O8.a 1), ?_⟩
  obtain ⟨⟨hh110, hh111⟩, H⟩ := H
  refine and_assoc.1 ⟨⟨hh110, Int.le_trans hh111 (Int.ofNat_le.2 O13.le)⟩, ?_⟩
  rw [show (i81.toNat) = ((List.take (i81.toNat) xs83)).length from by first | rfl | (simp; done) | (simp; omega)]
  refine stB O8 1 #[(iv i82), (sv A84 (((List.take (i81.toNat) xs83)).length) c85), (sv A32 r25.Regs.length c33)] (fun w112 P8 e113 => ?_)
  have O5 := O5.chg e113 N5_8
  have O7 := O7.chg e113 N7_8
  have O16 := ((O13.take (i81.toNat))).chg e113 (O13.qa6 O8 (by decide))
  have hB := echg hB e113 L8
  have O8 := P8
  obtain ⟨m114, hm115, hJ116⟩ := H
  exact ⟨m114, hm115, _, i82, _, A84, c85, rfl, hJ116, hB, O8, O16, O5, O7⟩
 refine ⟨_, (O8.a 0), _, _, _, (O8.a 1), _, _, _, (O8.a 2), ?_⟩
 refine stB O5 0 #[(iv i82), (sv A84 xs83.length c85), (sv A32 r25.Regs.length c33)] (fun w118 P5 e119 => ?_)
 have O7 := O7.chg e119 N7_5
 have O13 := O13.chg e119 (O13.qa6 O5 (by decide))
 have hB := echg hB e119 L5
 have O5 := P5
 refine ⟨_, (O5.a 0), _, _, _, (O5.a 1), _, _, _, (O5.a 2), ?_⟩
 cases hr.trans H.symm
 exact ⟨A84, c85, A32, c33, rfl, O13, O7, hB⟩
end Go.V
