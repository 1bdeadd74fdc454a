import Derived.Test.YtkacokecjojkoaaGreatKRwCon3
namespace Go.V
open Go.Proofs
set_option linter.unusedVariables false
set_option linter.unusedSimpArgs false
set_option maxRecDepth 100000
def laws_FnExactRunWarp.vc (A0 : Option Addr) (n0 : Nat) (c0 : Nat) (x1_0 : Int) (A1_1 : Option Addr) (n1_1 : Nat) (c1_1 : Nat) (A1_2 : Option Addr) (n1_2 : Nat) (c1_2 : Nat) (x2 : Int) (w : World) (K : Value → World → Prop) : Prop :=
  newK w (.cells #[(.int .i64 x1_0), (.slice A1_1 n1_1 c1_1), (.slice A1_2 n1_2 c1_2)] 26) fun g21 w22 => Cll Tryz.prog 15 #[(.slice A0 n0 c0), (.int .i64 1048576)] w22 fun v23 w24 => (∃ (n25 : Int), v23 = (.int .i64 n25) ∧ bcase (decide (n25 < 0)) (K (.bool true) w24) (∃ (n26 : Int), w24.cell? ((⟨g21, 0, none⟩ : Addr).add 0) = some (.int .i64 n26) ∧ ∃ (A27 : Option Addr) (n28 : Nat) (c29 : Nat), w24.cell? ((⟨g21, 0, none⟩ : Addr).add 1) = some (.slice A27 n28 c29) ∧ ∃ (A30 : Option Addr) (n31 : Nat) (c32 : Nat), w24.cell? ((⟨g21, 0, none⟩ : Addr).add 2) = some (.slice A30 n31 c32) ∧ Cll Tryz.prog 16 #[(.agg #[(.int .i64 n26), (.slice A27 n28 c29), (.slice A30 n31 c32)]), (.int .i64 n25)] w24 fun v33 w34 => (∃ (n35 : Int), v33 = (.int .i64 n35) ∧ bcase (decide (n35 < 0)) (K (.bool true) w34) (JoinT (σ := Addr × Int × Unit) (fun J36 => (∃ M37 : Nat → Prop, ∃ (n38 : Int), (¬ M37 ((⟨g21, 0, none⟩ : Addr)).block ∧ w34.cell? ((⟨g21, 0, none⟩ : Addr).add 0) = some (.int .i64 n38)) ∧ ∃ (A39 : Option Addr) (n40 : Nat) (c41 : Nat), (¬ M37 ((⟨g21, 0, none⟩ : Addr)).block ∧ w34.cell? ((⟨g21, 0, none⟩ : Addr).add 1) = some (.slice A39 n40 c41)) ∧ ∃ (A42 : Option Addr) (n43 : Nat) (c44 : Nat), (¬ M37 ((⟨g21, 0, none⟩ : Addr)).block ∧ w34.cell? ((⟨g21, 0, none⟩ : Addr).add 2) = some (.slice A42 n43 c44)) ∧ ((Cll Tryz.prog 18 #[(.slice A0 n0 c0)] w34.drew fun v45 w46 => (∃ (A47 : Option Addr) (n48 : Nat) (c49 : Nat), v45 = (.slice A47 n48 c49) ∧ SameBut M37 w34 w46 ∧ ((Cll Tryz.prog 19 #[(.agg #[(.int .i64 n38), (.slice A39 n40 c41), (.slice A42 n43 c44)])] w46 fun v50 w51 => (∃ (n52 : Int), True ∧ ∃ (A53 : Option Addr) (n54 : Nat) (c55 : Nat), True ∧ ∃ (A56 : Option Addr) (n57 : Nat) (c58 : Nat), True ∧ v50 = (.agg #[(.int .i64 n52), (.slice A53 n54 c55), (.slice A56 n57 c58)]) ∧ SameBut M37 w34 w51 ∧ ((Cll Tryz.prog 17 #[(.slice A47 n48 c49), (.agg #[(.int .i64 n52), (.slice A53 n54 c55), (.slice A56 n57 c58)]), (.int .i64 x2)] w51 fun v59 w60 => (∃ u61 : Value, (∃ (n62 : Int), True ∧ ∃ (A63 : Option Addr) (n64 : Nat) (c65 : Nat), True ∧ ∃ (A66 : Option Addr) (n67 : Nat) (c68 : Nat), True ∧ u61 = (.agg #[(.int .i64 n62), (.slice A63 n64 c65), (.slice A66 n67 c68)]) ∧ ∃ u69 : Value, (∃ (n70 : Int), u69 = (.int .i64 n70) ∧ v59 = (.tuple #[(.agg #[(.int .i64 n62), (.slice A63 n64 c65), (.slice A66 n67 c68)]), (.int .i64 n70)]) ∧ SameBut M37 w34 w60 ∧ newK w60 (.cells #[(.int .i64 0), (.slice none 0 0), (.slice none 0 0)] 31) fun g71 w72 => SameBut M37 w34 w72 ∧ stCells (⟨g71, 0, none⟩ : Addr) [(.int .i64 n62), (.slice A63 n64 c65), (.slice A66 n67 c68)] 0 w72 fun w73 => SameBut M37 w34 w73 ∧ J36 ((⟨g71, 0, none⟩ : Addr), n70, ()) w73)))) ∧ (newK w51 (.cells #[(.int .i64 0), (.slice none 0 0), (.slice none 0 0)] 31) fun g74 w75 => SameBut M37 w34 w75 ∧ Cll Tryz.prog 17 #[(.slice A47 n48 c49), (.agg #[(.int .i64 n52), (.slice A53 n54 c55), (.slice A56 n57 c58)]), (.int .i64 x2)] w75 fun v76 w77 => (∃ u78 : Value, (∃ (n79 : Int), True ∧ ∃ (A80 : Option Addr) (n81 : Nat) (c82 : Nat), True ∧ ∃ (A83 : Option Addr) (n84 : Nat) (c85 : Nat), True ∧ u78 = (.agg #[(.int .i64 n79), (.slice A80 n81 c82), (.slice A83 n84 c85)]) ∧ ∃ u86 : Value, (∃ (n87 : Int), u86 = (.int .i64 n87) ∧ v76 = (.tuple #[(.agg #[(.int .i64 n79), (.slice A80 n81 c82), (.slice A83 n84 c85)]), (.int .i64 n87)]) ∧ SameBut M37 w34 w77 ∧ stCells (⟨g74, 0, none⟩ : Addr) [(.int .i64 n79), (.slice A80 n81 c82), (.slice A83 n84 c85)] 0 w77 fun w88 => SameBut M37 w34 w88 ∧ J36 ((⟨g74, 0, none⟩ : Addr), n87, ()) w88)))) ∧ True))) ∧ (newK w46 (.cells #[(.int .i64 0), (.slice none 0 0), (.slice none 0 0)] 31) fun g89 w90 => SameBut M37 w34 w90 ∧ Cll Tryz.prog 19 #[(.agg #[(.int .i64 n38), (.slice A39 n40 c41), (.slice A42 n43 c44)])] w90 fun v91 w92 => (∃ (n93 : Int), True ∧ ∃ (A94 : Option Addr) (n95 : Nat) (c96 : Nat), True ∧ ∃ (A97 : Option Addr) (n98 : Nat) (c99 : Nat), True ∧ v91 = (.agg #[(.int .i64 n93), (.slice A94 n95 c96), (.slice A97 n98 c99)]) ∧ SameBut M37 w34 w92 ∧ Cll Tryz.prog 17 #[(.slice A47 n48 c49), (.agg #[(.int .i64 n93), (.slice A94 n95 c96), (.slice A97 n98 c99)]), (.int .i64 x2)] w92 fun v100 w101 => (∃ u102 : Value, (∃ (n103 : Int), True ∧ ∃ (A104 : Option Addr) (n105 : Nat) (c106 : Nat), True ∧ ∃ (A107 : Option Addr) (n108 : Nat) (c109 : Nat), True ∧ u102 = (.agg #[(.int .i64 n103), (.slice A104 n105 c106), (.slice A107 n108 c109)]) ∧ ∃ u110 : Value, (∃ (n111 : Int), u110 = (.int .i64 n111) ∧ v100 = (.tuple #[(.agg #[(.int .i64 n103), (.slice A104 n105 c106), (.slice A107 n108 c109)]), (.int .i64 n111)]) ∧ SameBut M37 w34 w101 ∧ stCells (⟨g89, 0, none⟩ : Addr) [(.int .i64 n103), (.slice A104 n105 c106), (.slice A107 n108 c109)] 0 w101 fun w112 => SameBut M37 w34 w112 ∧ J36 ((⟨g89, 0, none⟩ : Addr), n111, ()) w112))))) ∧ True))) ∧ (newK w34.drew (.cells #[(.int .i64 0), (.slice none 0 0), (.slice none 0 0)] 31) fun g113 w114 => SameBut M37 w34 w114 ∧ Cll Tryz.prog 18 #[(.slice A0 n0 c0)] w114 fun v115 w116 => (∃ (A117 : Option Addr) (n118 : Nat) (c119 : Nat), v115 = (.slice A117 n118 c119) ∧ SameBut M37 w34 w116 ∧ Cll Tryz.prog 19 #[(.agg #[(.int .i64 n38), (.slice A39 n40 c41), (.slice A42 n43 c44)])] w116 fun v120 w121 => (∃ (n122 : Int), True ∧ ∃ (A123 : Option Addr) (n124 : Nat) (c125 : Nat), True ∧ ∃ (A126 : Option Addr) (n127 : Nat) (c128 : Nat), True ∧ v120 = (.agg #[(.int .i64 n122), (.slice A123 n124 c125), (.slice A126 n127 c128)]) ∧ SameBut M37 w34 w121 ∧ Cll Tryz.prog 17 #[(.slice A117 n118 c119), (.agg #[(.int .i64 n122), (.slice A123 n124 c125), (.slice A126 n127 c128)]), (.int .i64 x2)] w121 fun v129 w130 => (∃ u131 : Value, (∃ (n132 : Int), True ∧ ∃ (A133 : Option Addr) (n134 : Nat) (c135 : Nat), True ∧ ∃ (A136 : Option Addr) (n137 : Nat) (c138 : Nat), True ∧ u131 = (.agg #[(.int .i64 n132), (.slice A133 n134 c135), (.slice A136 n137 c138)]) ∧ ∃ u139 : Value, (∃ (n140 : Int), u139 = (.int .i64 n140) ∧ v129 = (.tuple #[(.agg #[(.int .i64 n132), (.slice A133 n134 c135), (.slice A136 n137 c138)]), (.int .i64 n140)]) ∧ SameBut M37 w34 w130 ∧ stCells (⟨g113, 0, none⟩ : Addr) [(.int .i64 n132), (.slice A133 n134 c135), (.slice A136 n137 c138)] 0 w130 fun w141 => SameBut M37 w34 w141 ∧ J36 ((⟨g113, 0, none⟩ : Addr), n140, ()) w141)))))) ∧ True))) fun z142 w143 => Cll Tryz.prog 18 #[(.slice A0 n0 c0)] w143 fun v144 w145 => (∃ (A146 : Option Addr) (n147 : Nat) (c148 : Nat), v144 = (.slice A146 n147 c148) ∧ ∃ (n149 : Int), w145.cell? ((⟨g21, 0, none⟩ : Addr).add 0) = some (.int .i64 n149) ∧ ∃ (A150 : Option Addr) (n151 : Nat) (c152 : Nat), w145.cell? ((⟨g21, 0, none⟩ : Addr).add 1) = some (.slice A150 n151 c152) ∧ ∃ (A153 : Option Addr) (n154 : Nat) (c155 : Nat), w145.cell? ((⟨g21, 0, none⟩ : Addr).add 2) = some (.slice A153 n154 c155) ∧ Cll Tryz.prog 19 #[(.agg #[(.int .i64 n149), (.slice A150 n151 c152), (.slice A153 n154 c155)])] w145 fun v156 w157 => (∃ (n158 : Int), True ∧ ∃ (A159 : Option Addr) (n160 : Nat) (c161 : Nat), True ∧ ∃ (A162 : Option Addr) (n163 : Nat) (c164 : Nat), True ∧ v156 = (.agg #[(.int .i64 n158), (.slice A159 n160 c161), (.slice A162 n163 c164)]) ∧ newK w157 (.cells #[(.int .i64 0), (.slice none 0 0), (.slice none 0 0)] 31) fun g165 w166 => stCells (⟨g165, 0, none⟩ : Addr) [(.int .i64 n158), (.slice A159 n160 c161), (.slice A162 n163 c164)] 0 w166 fun w167 => ∃ (n168 : Int), w167.cell? ((⟨g165, 0, none⟩ : Addr).add 0) = some (.int .i64 n168) ∧ ∃ (A169 : Option Addr) (n170 : Nat) (c171 : Nat), w167.cell? ((⟨g165, 0, none⟩ : Addr).add 1) = some (.slice A169 n170 c171) ∧ ∃ (A172 : Option Addr) (n173 : Nat) (c174 : Nat), w167.cell? ((⟨g165, 0, none⟩ : Addr).add 2) = some (.slice A172 n173 c174) ∧ Cll Tryz.prog 20 #[(.slice A146 n147 c148), (.agg #[(.int .i64 n168), (.slice A169 n170 c171), (.slice A172 n173 c174)]), (.int .i64 x2)] w167 fun v175 w176 => (∃ u177 : Value, (∃ (n178 : Int), True ∧ ∃ (A179 : Option Addr) (n180 : Nat) (c181 : Nat), True ∧ ∃ (A182 : Option Addr) (n183 : Nat) (c184 : Nat), True ∧ u177 = (.agg #[(.int .i64 n178), (.slice A179 n180 c181), (.slice A182 n183 c184)]) ∧ ∃ u185 : Value, (∃ (n186 : Int), u185 = (.int .i64 n186) ∧ v175 = (.tuple #[(.agg #[(.int .i64 n178), (.slice A179 n180 c181), (.slice A182 n183 c184)]), (.int .i64 n186)]) ∧ newK w176 (.cells #[(.int .i64 0), (.slice none 0 0), (.slice none 0 0)] 31) fun g187 w188 => stCells (⟨g187, 0, none⟩ : Addr) [(.int .i64 n178), (.slice A179 n180 c181), (.slice A182 n183 c184)] 0 w188 fun w189 => ∃ (n191 : Int), w189.cell? ((⟨g187, 0, none⟩ : Addr).add 0) = some (.int .i64 n191) ∧ ∃ (A192 : Option Addr) (n193 : Nat) (c194 : Nat), w189.cell? ((⟨g187, 0, none⟩ : Addr).add 1) = some (.slice A192 n193 c194) ∧ ∃ (A195 : Option Addr) (n196 : Nat) (c197 : Nat), w189.cell? ((⟨g187, 0, none⟩ : Addr).add 2) = some (.slice A195 n196 c197) ∧ ∃ (n198 : Int), w189.cell? (z142.1.add 0) = some (.int .i64 n198) ∧ ∃ (A199 : Option Addr) (n200 : Nat) (c201 : Nat), w189.cell? (z142.1.add 1) = some (.slice A199 n200 c201) ∧ ∃ (A202 : Option Addr) (n203 : Nat) (c204 : Nat), w189.cell? (z142.1.add 2) = some (.slice A202 n203 c204) ∧ Cll Tryz.prog 21 #[(.agg #[(.int .i64 n191), (.slice A192 n193 c194), (.slice A195 n196 c197)]), (.agg #[(.int .i64 n198), (.slice A199 n200 c201), (.slice A202 n203 c204)])] w189 fun v205 w206 => (∃ (b207 : Bool), v205 = (.bool b207) ∧ bcase (!b207) (K (.bool false) w206) (bcase (n186 != z142.2.1) (K (.bool false) w206) (Cll Tryz.prog 18 #[(.slice A0 n0 c0)] w206 fun v208 w209 => (∃ (A210 : Option Addr) (n211 : Nat) (c212 : Nat), v208 = (.slice A210 n211 c212) ∧ Cll Tryz.prog 22 #[(.slice A146 n147 c148), (.slice A210 n211 c212)] w209 fun v213 w214 => (∃ (b215 : Bool), v213 = (.bool b215) ∧ bcase (!b215) (K (.bool false) w214) ((∃ M216 : Nat → Prop, ∃ (n217 : Int), (¬ M216 ((⟨g165, 0, none⟩ : Addr)).block ∧ w214.cell? ((⟨g165, 0, none⟩ : Addr).add 0) = some (.int .i64 n217)) ∧ ∃ (A218 : Option Addr) (n219 : Nat) (c220 : Nat), (¬ M216 ((⟨g165, 0, none⟩ : Addr)).block ∧ w214.cell? ((⟨g165, 0, none⟩ : Addr).add 1) = some (.slice A218 n219 c220)) ∧ ∃ (A221 : Option Addr) (n222 : Nat) (c223 : Nat), (¬ M216 ((⟨g165, 0, none⟩ : Addr)).block ∧ w214.cell? ((⟨g165, 0, none⟩ : Addr).add 2) = some (.slice A221 n222 c223)) ∧ ∃ (n224 : Int), (¬ M216 ((⟨g21, 0, none⟩ : Addr)).block ∧ w214.cell? ((⟨g21, 0, none⟩ : Addr).add 0) = some (.int .i64 n224)) ∧ ∃ (A225 : Option Addr) (n226 : Nat) (c227 : Nat), (¬ M216 ((⟨g21, 0, none⟩ : Addr)).block ∧ w214.cell? ((⟨g21, 0, none⟩ : Addr).add 1) = some (.slice A225 n226 c227)) ∧ ∃ (A228 : Option Addr) (n229 : Nat) (c230 : Nat), (¬ M216 ((⟨g21, 0, none⟩ : Addr)).block ∧ w214.cell? ((⟨g21, 0, none⟩ : Addr).add 2) = some (.slice A228 n229 c230)) ∧ Cll Tryz.prog 19 #[(.agg #[(.int .i64 n224), (.slice A225 n226 c227), (.slice A228 n229 c230)])] w214.drew fun v231 w232 => (∃ (n233 : Int), True ∧ ∃ (A234 : Option Addr) (n235 : Nat) (c236 : Nat), True ∧ ∃ (A237 : Option Addr) (n238 : Nat) (c239 : Nat), True ∧ v231 = (.agg #[(.int .i64 n233), (.slice A234 n235 c236), (.slice A237 n238 c239)]) ∧ SameBut M216 w214 w232 ∧ Cll Tryz.prog 21 #[(.agg #[(.int .i64 n217), (.slice A218 n219 c220), (.slice A221 n222 c223)]), (.agg #[(.int .i64 n233), (.slice A234 n235 c236), (.slice A237 n238 c239)])] w232 fun v240 w241 => (∃ (b242 : Bool), v240 = (.bool b242) ∧ SameBut M216 w214 w241 ∧ bcase (!b242) (K (.bool false) w241) (Cll Tryz.prog 23 #[(.slice A146 n147 c148), (.int .i64 1)] w241 fun v243 w244 => (∃ (n245 : Int), v243 = (.int .i64 n245) ∧ ∃ (n246 : Int), w244.cell? ((⟨g165, 0, none⟩ : Addr).add 0) = some (.int .i64 n246) ∧ ∃ (A247 : Option Addr) (n248 : Nat) (c249 : Nat), w244.cell? ((⟨g165, 0, none⟩ : Addr).add 1) = some (.slice A247 n248 c249) ∧ ∃ (A250 : Option Addr) (n251 : Nat) (c252 : Nat), w244.cell? ((⟨g165, 0, none⟩ : Addr).add 2) = some (.slice A250 n251 c252) ∧ Cll Tryz.prog 24 #[(.agg #[(.int .i64 n246), (.slice A247 n248 c249), (.slice A250 n251 c252)]), (.int .i64 n245)] w244 fun v253 w254 => (∃ (n255 : Int), v253 = (.int .i64 n255) ∧ bcase (decide (n255 < 0)) (K (.bool false) w254) (∃ (n257 : Int), w254.cell? ((⟨g187, 0, none⟩ : Addr).add 0) = some (.int .i64 n257) ∧ ∃ (A258 : Option Addr) (n259 : Nat) (c260 : Nat), w254.cell? ((⟨g187, 0, none⟩ : Addr).add 1) = some (.slice A258 n259 c260) ∧ ∃ (A261 : Option Addr) (n262 : Nat) (c263 : Nat), w254.cell? ((⟨g187, 0, none⟩ : Addr).add 2) = some (.slice A261 n262 c263) ∧ ∃ (n264 : Int), w254.cell? (z142.1.add 0) = some (.int .i64 n264) ∧ ∃ (A265 : Option Addr) (n266 : Nat) (c267 : Nat), w254.cell? (z142.1.add 1) = some (.slice A265 n266 c267) ∧ ∃ (A268 : Option Addr) (n269 : Nat) (c270 : Nat), w254.cell? (z142.1.add 2) = some (.slice A268 n269 c270) ∧ Cll Tryz.prog 21 #[(.agg #[(.int .i64 n257), (.slice A258 n259 c260), (.slice A261 n262 c263)]), (.agg #[(.int .i64 n264), (.slice A265 n266 c267), (.slice A268 n269 c270)])] w254 fun v271 w272 => (∃ (b273 : Bool), v271 = (.bool b273) ∧ bcase (!b273) (K (.bool false) w272) (bcase (n186 != z142.2.1) (K (.bool false) w272) (∃ (n274 : Int), w272.cell? ((⟨g187, 0, none⟩ : Addr).add 0) = some (.int .i64 n274) ∧ ∃ (A275 : Option Addr) (n276 : Nat) (c277 : Nat), w272.cell? ((⟨g187, 0, none⟩ : Addr).add 1) = some (.slice A275 n276 c277) ∧ ∃ (A278 : Option Addr) (n279 : Nat) (c280 : Nat), w272.cell? ((⟨g187, 0, none⟩ : Addr).add 2) = some (.slice A278 n279 c280) ∧ Cll Tryz.prog 24 #[(.agg #[(.int .i64 n274), (.slice A275 n276 c277), (.slice A278 n279 c280)]), (.int .i64 1)] w272 fun v281 w282 => (∃ (n283 : Int), v281 = (.int .i64 n283) ∧ ∃ (n284 : Int), w282.cell? ((⟨g187, 0, none⟩ : Addr).add 0) = some (.int .i64 n284) ∧ ∃ (A285 : Option Addr) (n286 : Nat) (c287 : Nat), w282.cell? ((⟨g187, 0, none⟩ : Addr).add 1) = some (.slice A285 n286 c287) ∧ ∃ (A288 : Option Addr) (n289 : Nat) (c290 : Nat), w282.cell? ((⟨g187, 0, none⟩ : Addr).add 2) = some (.slice A288 n289 c290) ∧ Cll Tryz.prog 25 #[(.agg #[(.int .i64 n284), (.slice A285 n286 c287), (.slice A288 n289 c290)]), (.int .i64 1)] w282 fun v291 w292 => (∃ (n293 : Int), v291 = (.int .i64 n293) ∧ bcase (decide (n293 < 0)) (K (.bool false) w292) (bcase (n293 != n283) (K (.bool false) w292) (JoinT (σ := Addr × Int × Unit) (fun J294 => (∃ M295 : Nat → Prop, ∃ (n296 : Int), (¬ M295 ((⟨g21, 0, none⟩ : Addr)).block ∧ w292.cell? ((⟨g21, 0, none⟩ : Addr).add 0) = some (.int .i64 n296)) ∧ ∃ (A297 : Option Addr) (n298 : Nat) (c299 : Nat), (¬ M295 ((⟨g21, 0, none⟩ : Addr)).block ∧ w292.cell? ((⟨g21, 0, none⟩ : Addr).add 1) = some (.slice A297 n298 c299)) ∧ ∃ (A300 : Option Addr) (n301 : Nat) (c302 : Nat), (¬ M295 ((⟨g21, 0, none⟩ : Addr)).block ∧ w292.cell? ((⟨g21, 0, none⟩ : Addr).add 2) = some (.slice A300 n301 c302)) ∧ ((Cll Tryz.prog 18 #[(.slice A0 n0 c0)] w292.drew fun v303 w304 => (∃ (A305 : Option Addr) (n306 : Nat) (c307 : Nat), v303 = (.slice A305 n306 c307) ∧ SameBut M295 w292 w304 ∧ ((Cll Tryz.prog 19 #[(.agg #[(.int .i64 n296), (.slice A297 n298 c299), (.slice A300 n301 c302)])] w304 fun v308 w309 => (∃ (n310 : Int), True ∧ ∃ (A311 : Option Addr) (n312 : Nat) (c313 : Nat), True ∧ ∃ (A314 : Option Addr) (n315 : Nat) (c316 : Nat), True ∧ v308 = (.agg #[(.int .i64 n310), (.slice A311 n312 c313), (.slice A314 n315 c316)]) ∧ SameBut M295 w292 w309 ∧ ((Cll Tryz.prog 20 #[(.slice A305 n306 c307), (.agg #[(.int .i64 n310), (.slice A311 n312 c313), (.slice A314 n315 c316)]), (.int .i64 x2)] w309 fun v317 w318 => (∃ u319 : Value, (∃ (n320 : Int), True ∧ ∃ (A321 : Option Addr) (n322 : Nat) (c323 : Nat), True ∧ ∃ (A324 : Option Addr) (n325 : Nat) (c326 : Nat), True ∧ u319 = (.agg #[(.int .i64 n320), (.slice A321 n322 c323), (.slice A324 n325 c326)]) ∧ ∃ u327 : Value, (∃ (n328 : Int), u327 = (.int .i64 n328) ∧ v317 = (.tuple #[(.agg #[(.int .i64 n320), (.slice A321 n322 c323), (.slice A324 n325 c326)]), (.int .i64 n328)]) ∧ SameBut M295 w292 w318 ∧ newK w318 (.cells #[(.int .i64 0), (.slice none 0 0), (.slice none 0 0)] 31) fun g329 w330 => SameBut M295 w292 w330 ∧ stCells (⟨g329, 0, none⟩ : Addr) [(.int .i64 n320), (.slice A321 n322 c323), (.slice A324 n325 c326)] 0 w330 fun w331 => SameBut M295 w292 w331 ∧ J294 ((⟨g329, 0, none⟩ : Addr), n328, ()) w331)))) ∧ (newK w309 (.cells #[(.int .i64 0), (.slice none 0 0), (.slice none 0 0)] 31) fun g332 w333 => SameBut M295 w292 w333 ∧ Cll Tryz.prog 20 #[(.slice A305 n306 c307), (.agg #[(.int .i64 n310), (.slice A311 n312 c313), (.slice A314 n315 c316)]), (.int .i64 x2)] w333 fun v334 w335 => (∃ u336 : Value, (∃ (n337 : Int), True ∧ ∃ (A338 : Option Addr) (n339 : Nat) (c340 : Nat), True ∧ ∃ (A341 : Option Addr) (n342 : Nat) (c343 : Nat), True ∧ u336 = (.agg #[(.int .i64 n337), (.slice A338 n339 c340), (.slice A341 n342 c343)]) ∧ ∃ u344 : Value, (∃ (n345 : Int), u344 = (.int .i64 n345) ∧ v334 = (.tuple #[(.agg #[(.int .i64 n337), (.slice A338 n339 c340), (.slice A341 n342 c343)]), (.int .i64 n345)]) ∧ SameBut M295 w292 w335 ∧ stCells (⟨g332, 0, none⟩ : Addr) [(.int .i64 n337), (.slice A338 n339 c340), (.slice A341 n342 c343)] 0 w335 fun w346 => SameBut M295 w292 w346 ∧ J294 ((⟨g332, 0, none⟩ : Addr), n345, ()) w346)))) ∧ True))) ∧ (newK w304 (.cells #[(.int .i64 0), (.slice none 0 0), (.slice none 0 0)] 31) fun g347 w348 => SameBut M295 w292 w348 ∧ Cll Tryz.prog 19 #[(.agg #[(.int .i64 n296), (.slice A297 n298 c299), (.slice A300 n301 c302)])] w348 fun v349 w350 => (∃ (n351 : Int), True ∧ ∃ (A352 : Option Addr) (n353 : Nat) (c354 : Nat), True ∧ ∃ (A355 : Option Addr) (n356 : Nat) (c357 : Nat), True ∧ v349 = (.agg #[(.int .i64 n351), (.slice A352 n353 c354), (.slice A355 n356 c357)]) ∧ SameBut M295 w292 w350 ∧ Cll Tryz.prog 20 #[(.slice A305 n306 c307), (.agg #[(.int .i64 n351), (.slice A352 n353 c354), (.slice A355 n356 c357)]), (.int .i64 x2)] w350 fun v358 w359 => (∃ u360 : Value, (∃ (n361 : Int), True ∧ ∃ (A362 : Option Addr) (n363 : Nat) (c364 : Nat), True ∧ ∃ (A365 : Option Addr) (n366 : Nat) (c367 : Nat), True ∧ u360 = (.agg #[(.int .i64 n361), (.slice A362 n363 c364), (.slice A365 n366 c367)]) ∧ ∃ u368 : Value, (∃ (n369 : Int), u368 = (.int .i64 n369) ∧ v358 = (.tuple #[(.agg #[(.int .i64 n361), (.slice A362 n363 c364), (.slice A365 n366 c367)]), (.int .i64 n369)]) ∧ SameBut M295 w292 w359 ∧ stCells (⟨g347, 0, none⟩ : Addr) [(.int .i64 n361), (.slice A362 n363 c364), (.slice A365 n366 c367)] 0 w359 fun w370 => SameBut M295 w292 w370 ∧ J294 ((⟨g347, 0, none⟩ : Addr), n369, ()) w370))))) ∧ True))) ∧ (newK w292.drew (.cells #[(.int .i64 0), (.slice none 0 0), (.slice none 0 0)] 31) fun g371 w372 => SameBut M295 w292 w372 ∧ Cll Tryz.prog 18 #[(.slice A0 n0 c0)] w372 fun v373 w374 => (∃ (A375 : Option Addr) (n376 : Nat) (c377 : Nat), v373 = (.slice A375 n376 c377) ∧ SameBut M295 w292 w374 ∧ Cll Tryz.prog 19 #[(.agg #[(.int .i64 n296), (.slice A297 n298 c299), (.slice A300 n301 c302)])] w374 fun v378 w379 => (∃ (n380 : Int), True ∧ ∃ (A381 : Option Addr) (n382 : Nat) (c383 : Nat), True ∧ ∃ (A384 : Option Addr) (n385 : Nat) (c386 : Nat), True ∧ v378 = (.agg #[(.int .i64 n380), (.slice A381 n382 c383), (.slice A384 n385 c386)]) ∧ SameBut M295 w292 w379 ∧ Cll Tryz.prog 20 #[(.slice A375 n376 c377), (.agg #[(.int .i64 n380), (.slice A381 n382 c383), (.slice A384 n385 c386)]), (.int .i64 x2)] w379 fun v387 w388 => (∃ u389 : Value, (∃ (n390 : Int), True ∧ ∃ (A391 : Option Addr) (n392 : Nat) (c393 : Nat), True ∧ ∃ (A394 : Option Addr) (n395 : Nat) (c396 : Nat), True ∧ u389 = (.agg #[(.int .i64 n390), (.slice A391 n392 c393), (.slice A394 n395 c396)]) ∧ ∃ u397 : Value, (∃ (n398 : Int), u397 = (.int .i64 n398) ∧ v387 = (.tuple #[(.agg #[(.int .i64 n390), (.slice A391 n392 c393), (.slice A394 n395 c396)]), (.int .i64 n398)]) ∧ SameBut M295 w292 w388 ∧ stCells (⟨g371, 0, none⟩ : Addr) [(.int .i64 n390), (.slice A391 n392 c393), (.slice A394 n395 c396)] 0 w388 fun w399 => SameBut M295 w292 w399 ∧ J294 ((⟨g371, 0, none⟩ : Addr), n398, ()) w399)))))) ∧ True))) fun z400 w401 => ∃ (n403 : Int), w401.cell? (z400.1.add 0) = some (.int .i64 n403) ∧ ∃ (A404 : Option Addr) (n405 : Nat) (c406 : Nat), w401.cell? (z400.1.add 1) = some (.slice A404 n405 c406) ∧ ∃ (A407 : Option Addr) (n408 : Nat) (c409 : Nat), w401.cell? (z400.1.add 2) = some (.slice A407 n408 c409) ∧ ∃ (n410 : Int), w401.cell? (z142.1.add 0) = some (.int .i64 n410) ∧ ∃ (A411 : Option Addr) (n412 : Nat) (c413 : Nat), w401.cell? (z142.1.add 1) = some (.slice A411 n412 c413) ∧ ∃ (A414 : Option Addr) (n415 : Nat) (c416 : Nat), w401.cell? (z142.1.add 2) = some (.slice A414 n415 c416) ∧ Cll Tryz.prog 21 #[(.agg #[(.int .i64 n403), (.slice A404 n405 c406), (.slice A407 n408 c409)]), (.agg #[(.int .i64 n410), (.slice A411 n412 c413), (.slice A414 n415 c416)])] w401 fun v417 w418 => (∃ (b419 : Bool), v417 = (.bool b419) ∧ bcase (!b419) (K (.bool false) w418) (bcase (z400.2.1 != z142.2.1) (K (.bool false) w418) (∃ (n420 : Int), w418.cell? ((⟨g187, 0, none⟩ : Addr).add 0) = some (.int .i64 n420) ∧ ∃ (A421 : Option Addr) (n422 : Nat) (c423 : Nat), w418.cell? ((⟨g187, 0, none⟩ : Addr).add 1) = some (.slice A421 n422 c423) ∧ ∃ (A424 : Option Addr) (n425 : Nat) (c426 : Nat), w418.cell? ((⟨g187, 0, none⟩ : Addr).add 2) = some (.slice A424 n425 c426) ∧ Cll Tryz.prog 25 #[(.agg #[(.int .i64 n420), (.slice A421 n422 c423), (.slice A424 n425 c426)]), (.int .i64 1)] w418 fun v427 w428 => (∃ (n429 : Int), v427 = (.int .i64 n429) ∧ bcase (decide (n429 < 0)) (K (.bool false) w428) (bcase (n429 != n283) (K (.bool false) w428) (K (.bool true) w428)))))))))))))))))))))))))))))))))))

def laws_FnExactRunWarp.ann : Ann := (.seq .l (.seq .l (.seq .l (.seq (.seq .l (.two (.seq .l .l) .l)) (.seq .l (.seq (.seq .l (.two (.seq .l .l) .l)) (.cut [(8, .ptr), (9, .int .i64)] .l (.seq .l (.seq .l (.seq .l (.seq (.seq .l (.two (.seq .l .l) .l)) (.seq (.seq .l (.two (.seq .l .l) .l)) (.seq (.seq .l (.two (.seq .l .l) .l)) (.seq .l (.seq .l (.seq .l (.seq (.seq .l (.two (.seq .l .l) .l)) (.seq .l (.seq .l (.seq .l (.seq .l (.seq (.seq .l (.two (.seq .l .l) .l)) (.seq (.seq .l (.two (.seq .l .l) .l)) (.cut [(17, .ptr), (18, .int .i64)] .l (.seq (.seq .l (.two (.seq .l .l) .l)) (.seq .l (.seq .l (.seq (.seq .l (.two (.seq .l .l) .l)) (.seq (.seq .l (.two (.seq .l .l) .l)) (.seq .l .l))))))))))))))))))))))))))))))

theorem laws_FnExactRunWarp.start {A0 : Option Addr} {n0 : Nat} {c0 : Nat} {x1_0 : Int} {A1_1 : Option Addr} {n1_1 : Nat} {c1_1 : Nat} {A1_2 : Option Addr} {n1_2 : Nat} {c1_2 : Nat} {x2 : Int} {w : World} {K : Value → World → Prop} (h : laws_FnExactRunWarp.vc A0 n0 c0 x1_0 A1_1 n1_1 c1_1 A1_2 n1_2 c1_2 x2 w K) : Cll Tryz.prog 3 #[(.slice A0 n0 c0), (.agg #[(.int .i64 x1_0), (.slice A1_1 n1_1 c1_1), (.slice A1_2 n1_2 c1_2)]), (.int .i64 x2)] w K :=
  vcF_sound mixed (fn := Tryz.f3) (by kernel_rfl) (by kernel_rfl) (an := laws_FnExactRunWarp.ann) (args := [(.slice A0 n0 c0), (.agg #[(.int .i64 x1_0), (.slice A1_1 n1_1 c1_1), (.slice A1_2 n1_2 c1_2)]), (.int .i64 x2)]) (Eq.mpr (by kernel_rfl) h)

theorem laws_FnExactRunWarp.con {xs0 : List D.Ins} {A0 : Option Addr} {c0 : Nat} {s1 : D.Warp} {A1_1 : Option Addr} {c1_1 : Nat} {A1_2 : Option Addr} {c1_2 : Nat} {x2 : Int} {r : Bool} {w : World} (hp : M.laws_FnExactRunWarp_pre xs0 s1 x2) (hr : r = M.laws_FnExactRunWarp xs0 s1 x2) (R0 : Row el91 w A0 xs0) (hc0 : xs0.length ≤ c0) (R1_1 : Row el134 w A1_1 s1.Frames) (hc1_1 : s1.Frames.length ≤ c1_1) (R1_2 : Row el3 w A1_2 s1.Regs) (hc1_2 : s1.Regs.length ≤ c1_2) :
    Cll Tryz.prog 3 #[(.slice A0 xs0.length c0), (.agg #[(.int .i64 s1.Number), (.slice A1_1 s1.Frames.length c1_1), (.slice A1_2 s1.Regs.length c1_2)]), (.int .i64 x2)] w (fun v_ w_ => v_ = (.bool r) ∧ Ext w w_) := by
  have H := wp.laws_FnExactRunWarp.math xs0 s1 x2 hp
  have hB := Ext.refl w
  refine laws_FnExactRunWarp.start ?_
  unfold laws_FnExactRunWarp.vc
  unfold wp.laws_FnExactRunWarp at H
  refine newBlk (fun g4_ w21 L4 P4 e22 => ?_)
  have O4 := P4
  have L4 := Nat.le_trans hB.size L4
  have hB := ethen hB e22
  obtain ⟨hp25, H⟩ := H
  obtain ⟨r23, hr24⟩ : ∃ r_, r_ = M.laws_szInsS xs0 1048576 := ⟨_, rfl⟩
  have H := H r23 hr24
  refine (laws_szInsS.con hp25 hr24 (R0.ext hB) hc0).mono ?_
  rintro _ w26 ⟨rfl, e27⟩
  have O4 := O4.ext e27
  have hB := ethen hB e27
  refine ⟨r23, rfl, ?_⟩
  refine bcase_mk (fun hc366 => ?_) (fun hc366 => ?_)
  · have H := (bcase_iff.1 H).1 hc366
    obtain rfl := hr.trans H.symm
    exact ⟨rfl, hB⟩
  have H := (bcase_iff.1 H).2 hc366
  refine ⟨_, (O4.at 0 rfl rfl), ?_⟩
  refine ⟨_, _, _, (O4.at 1 rfl rfl), ?_⟩
  refine ⟨_, _, _, (O4.at 2 rfl rfl), ?_⟩
  obtain ⟨hp30, H⟩ := H
  obtain ⟨r28, hr29⟩ : ∃ r_, r_ = M.laws_szWarp s1 r23 := ⟨_, rfl⟩
  have H := H r28 hr29
  refine (laws_szWarp.con hp30 hr29 (R1_1.ext hB) hc1_1 (R1_2.ext hB) hc1_2).mono ?_
  rintro _ w31 ⟨rfl, e32⟩
  have O4 := O4.ext e32
  have hB := ethen hB e32
  refine ⟨r28, rfl, ?_⟩
  refine bcase_mk (fun hc365 => ?_) (fun hc365 => ?_)
  · have H := (bcase_iff.1 H).1 hc365
    obtain rfl := hr.trans H.symm
    exact ⟨rfl, hB⟩
  have H := (bcase_iff.1 H).2 hc365
  obtain ⟨K364, hKK364, H⟩ := joinP_out H
  refine ⟨fun z_ w_ => ∃ (i33 : Int) (xs34 : List D.Frame) (xs37 : List Int) (i40 : Int) (g25_ : Nat) (A35 : Option Addr) (c36 : Nat) (A38 : Option Addr) (c39 : Nat), z_ = ((⟨g25_, 0, none⟩ : Addr), i40, ()) ∧ K364 (i33, xs34, xs37, i40, ()) ∧ Ext w w_ ∧ Blk w_ g25_ 31 #[(.int .i64 i33), (.slice A35 xs34.length c36), (.slice A38 xs37.length c39)] ∧ w.heap.size ≤ g25_ ∧ Own el130 w_ w.heap.size A35 c36 xs34 ∧ Own el3 w_ w.heap.size A38 c39 xs37 ∧ Blk w_ g4_ 26 #[(.int .i64 s1.Number), (.slice A1_1 s1.Frames.length c1_1), (.slice A1_2 s1.Regs.length c1_2)], ?_, ?_⟩
  · refine ⟨(fun _ => False), ?_⟩
    refine ⟨_, ⟨(fun h_ => h_), (O4.at 0 rfl rfl)⟩, ?_⟩
    refine ⟨_, _, _, ⟨(fun h_ => h_), (O4.at 1 rfl rfl)⟩, ?_⟩
    refine ⟨_, _, _, ⟨(fun h_ => h_), (O4.at 2 rfl rfl)⟩, ?_⟩
    refine And.intro ?_ ?_
    · have H := H.1
      have hS44 := Chg.refl (fun _ => False) w31
      have O4 := O4.ext (Ext.drew _)
      have hB := ethen hB (Ext.drew _)
      have hS44 := hS44.then (Ext.drew _)
      obtain ⟨hp47, H⟩ := H
      obtain ⟨r45, hr46⟩ : ∃ r_, r_ = M.laws_toInsS xs0 := ⟨_, rfl⟩
      have H := H r45 hr46
      refine (laws_toInsS.con hp47 hr46 (R0.ext hB) hc0).mono ?_
      rintro _ w48 ⟨A50, c51, rfl, P28, e49⟩
      have N28_4 := P28.apart_old O4.lt
      have O4 := O4.ext e49
      have LB28 := (P28.mono hS44.size).low
      have O28 := P28.mono hB.size
      have hB := ethen hB e49
      have hS44 := hS44.then e49
      refine ⟨A50, r45.length, c51, rfl, ?_⟩
      refine ⟨sameBut_chg hS44, ?_⟩
      refine And.intro ?_ ?_
      · have H := H.1
        obtain ⟨hp54, H⟩ := H
        obtain ⟨r52, hr53⟩ : ∃ r_, r_ = M.laws_toWarp s1 := ⟨_, rfl⟩
        have H := H r52 hr53
        refine (laws_toWarp.con hp54 hr53 (R1_1.ext hB) hc1_1 (R1_2.ext hB) hc1_2).mono ?_
        rintro _ w55 ⟨A57, c58, A59, c60, rfl, P29, P30, e56⟩
        have N29_4 := P29.apart_old O4.lt
        have N28_29 := Own.apart2_new O28 P29 (Nat.le_refl _)
        have N30_4 := P30.apart_old O4.lt
        have N28_30 := Own.apart2_new O28 P30 (Nat.le_refl _)
        have O4 := O4.ext e56
        have O28 := O28.ext e56
        have LB29 := (P29.mono hS44.size).low
        have LB30 := (P30.mono hS44.size).low
        have O29 := P29.mono hB.size
        have O30 := P30.mono hB.size
        have hB := ethen hB e56
        have hS44 := hS44.then e56
        refine ⟨r52.Number, trivial, ?_⟩
        refine ⟨A57, r52.Frames.length, c58, trivial, ?_⟩
        refine ⟨A59, r52.Regs.length, c60, trivial, ?_⟩
        refine ⟨rfl, ?_⟩
        refine ⟨sameBut_chg hS44, ?_⟩
        refine And.intro ?_ ?_
        · have H := H.1
          obtain ⟨hp63, H⟩ := H
          obtain ⟨r61, hr62⟩ : ∃ r_, r_ = M.spec_RunWarp r45 r52 x2 := ⟨_, rfl⟩
          have H := H r61 hr62
          refine (spec_RunWarp.con hp63 hr62 O28.row O28.le O29.row O29.le O30.row O30.le).mono ?_
          rintro _ w64 ⟨A66, c67, A68, c69, rfl, P31, P32, e65⟩
          have N31_4 := P31.apart_old O4.lt
          have N28_31 := Own.apart2_new O28 P31 (Nat.le_refl _)
          have N29_31 := Own.apart2_new O29 P31 (Nat.le_refl _)
          have N30_31 := Own.apart2_new O30 P31 (Nat.le_refl _)
          have N32_4 := P32.apart_old O4.lt
          have N28_32 := Own.apart2_new O28 P32 (Nat.le_refl _)
          have N29_32 := Own.apart2_new O29 P32 (Nat.le_refl _)
          have N30_32 := Own.apart2_new O30 P32 (Nat.le_refl _)
          have O4 := O4.ext e65
          have O28 := O28.ext e65
          have O29 := O29.ext e65
          have O30 := O30.ext e65
          have LB31 := (P31.mono hS44.size).low
          have LB32 := (P32.mono hS44.size).low
          have O31 := P31.mono hB.size
          have O32 := P32.mono hB.size
          have hB := ethen hB e65
          have hS44 := hS44.then e65
          refine ⟨(.agg #[(.int .i64 r61.1.Number), (.slice A66 r61.1.Frames.length c67), (.slice A68 r61.1.Regs.length c69)]), ?_⟩
          refine ⟨r61.1.Number, trivial, ?_⟩
          refine ⟨A66, r61.1.Frames.length, c67, trivial, ?_⟩
          refine ⟨A68, r61.1.Regs.length, c69, trivial, ?_⟩
          refine ⟨rfl, ?_⟩
          refine ⟨(.int .i64 r61.2), ?_⟩
          refine ⟨r61.2, rfl, ?_⟩
          refine ⟨rfl, ?_⟩
          refine ⟨sameBut_chg hS44, ?_⟩
          refine newBlk (fun g33_ w70 L33 P33 e71 => ?_)
          have N4_33 := O4.ne L33
          have N28_33 := O28.apart_new L33
          have N29_33 := O29.apart_new L33
          have N30_33 := O30.apart_new L33
          have N31_33 := O31.apart_new L33
          have N32_33 := O32.apart_new L33
          have O4 := O4.ext e71
          have O28 := O28.ext e71
          have O29 := O29.ext e71
          have O30 := O30.ext e71
          have O31 := O31.ext e71
          have O32 := O32.ext e71
          have O33 := P33
          have LB33 := Nat.le_trans hS44.size L33
          have L33 := Nat.le_trans hB.size L33
          have hB := ethen hB e71
          have hS44 := hS44.then e71
          refine ⟨sameBut_chg hS44, ?_⟩
          refine stBlk O33 (o := 0) (cs' := #[(.int .i64 r61.1.Number), (.slice A66 r61.1.Frames.length c67), (.slice A68 r61.1.Regs.length c69)]) rfl rfl (Nat.le_of_ble_eq_true rfl) rfl (fun w72 P33 e73 => ?_)
          have O4_ := O4.chg e73 N4_33
          have O28_ := O28.chg e73 N28_33
          have O29_ := O29.chg e73 N29_33
          have O30_ := O30.chg e73 N30_33
          have O31_ := O31.chg e73 N31_33
          have O32_ := O32.chg e73 N32_33
          have O4 := O4_
          have O28 := O28_
          have O29 := O29_
          have O30 := O30_
          have O31 := O31_
          have O32 := O32_
          have hB := echg hB e73 L33
          have hS44 := hS44.chgb e73 (Or.inl LB33)
          have O33 := P33
          refine ⟨sameBut_chg hS44, ?_⟩
          exact ⟨r61.1.Number, r61.1.Frames, r61.1.Regs, r61.2, g33_, A66, c67, A68, c69, rfl, H, hB, O33, L33, O31, O32, O4⟩
        refine And.intro ?_ ?_
        · have H := H.2.1
          refine newBlk (fun g34_ w74 L34 P34 e75 => ?_)
          have N4_34 := O4.ne L34
          have N28_34 := O28.apart_new L34
          have N29_34 := O29.apart_new L34
          have N30_34 := O30.apart_new L34
          have O4 := O4.ext e75
          have O28 := O28.ext e75
          have O29 := O29.ext e75
          have O30 := O30.ext e75
          have O34 := P34
          have LB34 := Nat.le_trans hS44.size L34
          have L34 := Nat.le_trans hB.size L34
          have hB := ethen hB e75
          have hS44 := hS44.then e75
          refine ⟨sameBut_chg hS44, ?_⟩
          obtain ⟨hp78, H⟩ := H
          obtain ⟨r76, hr77⟩ : ∃ r_, r_ = M.spec_RunWarp r45 r52 x2 := ⟨_, rfl⟩
          have H := H r76 hr77
          refine (spec_RunWarp.con hp78 hr77 O28.row O28.le O29.row O29.le O30.row O30.le).mono ?_
          rintro _ w79 ⟨A81, c82, A83, c84, rfl, P35, P36, e80⟩
          have N35_4 := P35.apart_old O4.lt
          have N28_35 := Own.apart2_new O28 P35 (Nat.le_refl _)
          have N29_35 := Own.apart2_new O29 P35 (Nat.le_refl _)
          have N30_35 := Own.apart2_new O30 P35 (Nat.le_refl _)
          have N35_34 := P35.apart_old O34.lt
          have N36_4 := P36.apart_old O4.lt
          have N28_36 := Own.apart2_new O28 P36 (Nat.le_refl _)
          have N29_36 := Own.apart2_new O29 P36 (Nat.le_refl _)
          have N30_36 := Own.apart2_new O30 P36 (Nat.le_refl _)
          have N36_34 := P36.apart_old O34.lt
          have O4 := O4.ext e80
          have O28 := O28.ext e80
          have O29 := O29.ext e80
          have O30 := O30.ext e80
          have O34 := O34.ext e80
          have LB35 := (P35.mono hS44.size).low
          have LB36 := (P36.mono hS44.size).low
          have O35 := P35.mono hB.size
          have O36 := P36.mono hB.size
          have hB := ethen hB e80
          have hS44 := hS44.then e80
          refine ⟨(.agg #[(.int .i64 r76.1.Number), (.slice A81 r76.1.Frames.length c82), (.slice A83 r76.1.Regs.length c84)]), ?_⟩
          refine ⟨r76.1.Number, trivial, ?_⟩
          refine ⟨A81, r76.1.Frames.length, c82, trivial, ?_⟩
          refine ⟨A83, r76.1.Regs.length, c84, trivial, ?_⟩
          refine ⟨rfl, ?_⟩
          refine ⟨(.int .i64 r76.2), ?_⟩
          refine ⟨r76.2, rfl, ?_⟩
          refine ⟨rfl, ?_⟩
          refine ⟨sameBut_chg hS44, ?_⟩
          refine stBlk O34 (o := 0) (cs' := #[(.int .i64 r76.1.Number), (.slice A81 r76.1.Frames.length c82), (.slice A83 r76.1.Regs.length c84)]) rfl rfl (Nat.le_of_ble_eq_true rfl) rfl (fun w85 P34 e86 => ?_)
          have O4_ := O4.chg e86 N4_34
          have O28_ := O28.chg e86 N28_34
          have O29_ := O29.chg e86 N29_34
          have O30_ := O30.chg e86 N30_34
          have O35_ := O35.chg e86 N35_34
          have O36_ := O36.chg e86 N36_34
          have O4 := O4_
          have O28 := O28_
          have O29 := O29_
          have O30 := O30_
          have O35 := O35_
          have O36 := O36_
          have hB := echg hB e86 L34
          have hS44 := hS44.chgb e86 (Or.inl LB34)
          have O34 := P34
          refine ⟨sameBut_chg hS44, ?_⟩
          exact ⟨r76.1.Number, r76.1.Frames, r76.1.Regs, r76.2, g34_, A81, c82, A83, c84, rfl, H, hB, O34, L34, O35, O36, O4⟩
        exact trivial
      refine And.intro ?_ ?_
      · have H := H.2.1
        refine newBlk (fun g37_ w87 L37 P37 e88 => ?_)
        have N4_37 := O4.ne L37
        have N28_37 := O28.apart_new L37
        have O4 := O4.ext e88
        have O28 := O28.ext e88
        have O37 := P37
        have LB37 := Nat.le_trans hS44.size L37
        have L37 := Nat.le_trans hB.size L37
        have hB := ethen hB e88
        have hS44 := hS44.then e88
        refine ⟨sameBut_chg hS44, ?_⟩
        obtain ⟨hp91, H⟩ := H
        obtain ⟨r89, hr90⟩ : ∃ r_, r_ = M.laws_toWarp s1 := ⟨_, rfl⟩
        have H := H r89 hr90
        refine (laws_toWarp.con hp91 hr90 (R1_1.ext hB) hc1_1 (R1_2.ext hB) hc1_2).mono ?_
        rintro _ w92 ⟨A94, c95, A96, c97, rfl, P38, P39, e93⟩
        have N38_4 := P38.apart_old O4.lt
        have N28_38 := Own.apart2_new O28 P38 (Nat.le_refl _)
        have N38_37 := P38.apart_old O37.lt
        have N39_4 := P39.apart_old O4.lt
        have N28_39 := Own.apart2_new O28 P39 (Nat.le_refl _)
        have N39_37 := P39.apart_old O37.lt
        have O4 := O4.ext e93
        have O28 := O28.ext e93
        have O37 := O37.ext e93
        have LB38 := (P38.mono hS44.size).low
        have LB39 := (P39.mono hS44.size).low
        have O38 := P38.mono hB.size
        have O39 := P39.mono hB.size
        have hB := ethen hB e93
        have hS44 := hS44.then e93
        refine ⟨r89.Number, trivial, ?_⟩
        refine ⟨A94, r89.Frames.length, c95, trivial, ?_⟩
        refine ⟨A96, r89.Regs.length, c97, trivial, ?_⟩
        refine ⟨rfl, ?_⟩
        refine ⟨sameBut_chg hS44, ?_⟩
        obtain ⟨hp100, H⟩ := H
        obtain ⟨r98, hr99⟩ : ∃ r_, r_ = M.spec_RunWarp r45 r89 x2 := ⟨_, rfl⟩
        have H := H r98 hr99
        refine (spec_RunWarp.con hp100 hr99 O28.row O28.le O38.row O38.le O39.row O39.le).mono ?_
        rintro _ w101 ⟨A103, c104, A105, c106, rfl, P40, P41, e102⟩
        have N40_4 := P40.apart_old O4.lt
        have N28_40 := Own.apart2_new O28 P40 (Nat.le_refl _)
        have N40_37 := P40.apart_old O37.lt
        have N38_40 := Own.apart2_new O38 P40 (Nat.le_refl _)
        have N39_40 := Own.apart2_new O39 P40 (Nat.le_refl _)
        have N41_4 := P41.apart_old O4.lt
        have N28_41 := Own.apart2_new O28 P41 (Nat.le_refl _)
        have N41_37 := P41.apart_old O37.lt
        have N38_41 := Own.apart2_new O38 P41 (Nat.le_refl _)
        have N39_41 := Own.apart2_new O39 P41 (Nat.le_refl _)
        have O4 := O4.ext e102
        have O28 := O28.ext e102
        have O37 := O37.ext e102
        have O38 := O38.ext e102
        have O39 := O39.ext e102
        have LB40 := (P40.mono hS44.size).low
        have LB41 := (P41.mono hS44.size).low
        have O40 := P40.mono hB.size
        have O41 := P41.mono hB.size
        have hB := ethen hB e102
        have hS44 := hS44.then e102
        refine ⟨(.agg #[(.int .i64 r98.1.Number), (.slice A103 r98.1.Frames.length c104), (.slice A105 r98.1.Regs.length c106)]), ?_⟩
        refine ⟨r98.1.Number, trivial, ?_⟩
        refine ⟨A103, r98.1.Frames.length, c104, trivial, ?_⟩
        refine ⟨A105, r98.1.Regs.length, c106, trivial, ?_⟩
        refine ⟨rfl, ?_⟩
        refine ⟨(.int .i64 r98.2), ?_⟩
        refine ⟨r98.2, rfl, ?_⟩
        refine ⟨rfl, ?_⟩
        refine ⟨sameBut_chg hS44, ?_⟩
        refine stBlk O37 (o := 0) (cs' := #[(.int .i64 r98.1.Number), (.slice A103 r98.1.Frames.length c104), (.slice A105 r98.1.Regs.length c106)]) rfl rfl (Nat.le_of_ble_eq_true rfl) rfl (fun w107 P37 e108 => ?_)
        have O4_ := O4.chg e108 N4_37
        have O28_ := O28.chg e108 N28_37
        have O38_ := O38.chg e108 N38_37
        have O39_ := O39.chg e108 N39_37
        have O40_ := O40.chg e108 N40_37
        have O41_ := O41.chg e108 N41_37
        have O4 := O4_
        have O28 := O28_
        have O38 := O38_
        have O39 := O39_
        have O40 := O40_
        have O41 := O41_
        have hB := echg hB e108 L37
        have hS44 := hS44.chgb e108 (Or.inl LB37)
        have O37 := P37
        refine ⟨sameBut_chg hS44, ?_⟩
        exact ⟨r98.1.Number, r98.1.Frames, r98.1.Regs, r98.2, g37_, A103, c104, A105, c106, rfl, H, hB, O37, L37, O40, O41, O4⟩
      exact trivial
    refine And.intro ?_ ?_
    · have H := H.2.1
      have hS44 := Chg.refl (fun _ => False) w31
      have O4 := O4.ext (Ext.drew _)
      have hB := ethen hB (Ext.drew _)
      have hS44 := hS44.then (Ext.drew _)
      refine newBlk (fun g42_ w109 L42 P42 e110 => ?_)
      have N4_42 := O4.ne L42
      have O4 := O4.ext e110
      have O42 := P42
      have LB42 := Nat.le_trans hS44.size L42
      have L42 := Nat.le_trans hB.size L42
      have hB := ethen hB e110
      have hS44 := hS44.then e110
      refine ⟨sameBut_chg hS44, ?_⟩
      obtain ⟨hp113, H⟩ := H
      obtain ⟨r111, hr112⟩ : ∃ r_, r_ = M.laws_toInsS xs0 := ⟨_, rfl⟩
      have H := H r111 hr112
      refine (laws_toInsS.con hp113 hr112 (R0.ext hB) hc0).mono ?_
      rintro _ w114 ⟨A116, c117, rfl, P43, e115⟩
      have N43_4 := P43.apart_old O4.lt
      have N43_42 := P43.apart_old O42.lt
      have O4 := O4.ext e115
      have O42 := O42.ext e115
      have LB43 := (P43.mono hS44.size).low
      have O43 := P43.mono hB.size
      have hB := ethen hB e115
      have hS44 := hS44.then e115
      refine ⟨A116, r111.length, c117, rfl, ?_⟩
      refine ⟨sameBut_chg hS44, ?_⟩
      obtain ⟨hp120, H⟩ := H
      obtain ⟨r118, hr119⟩ : ∃ r_, r_ = M.laws_toWarp s1 := ⟨_, rfl⟩
      have H := H r118 hr119
      refine (laws_toWarp.con hp120 hr119 (R1_1.ext hB) hc1_1 (R1_2.ext hB) hc1_2).mono ?_
      rintro _ w121 ⟨A123, c124, A125, c126, rfl, P44, P45, e122⟩
      have N44_4 := P44.apart_old O4.lt
      have N44_42 := P44.apart_old O42.lt
      have N43_44 := Own.apart2_new O43 P44 (Nat.le_refl _)
      have N45_4 := P45.apart_old O4.lt
      have N45_42 := P45.apart_old O42.lt
      have N43_45 := Own.apart2_new O43 P45 (Nat.le_refl _)
      have O4 := O4.ext e122
      have O42 := O42.ext e122
      have O43 := O43.ext e122
      have LB44 := (P44.mono hS44.size).low
      have LB45 := (P45.mono hS44.size).low
      have O44 := P44.mono hB.size
      have O45 := P45.mono hB.size
      have hB := ethen hB e122
      have hS44 := hS44.then e122
      refine ⟨r118.Number, trivial, ?_⟩
      refine ⟨A123, r118.Frames.length, c124, trivial, ?_⟩
      refine ⟨A125, r118.Regs.length, c126, trivial, ?_⟩
      refine ⟨rfl, ?_⟩
      refine ⟨sameBut_chg hS44, ?_⟩
      obtain ⟨hp129, H⟩ := H
      obtain ⟨r127, hr128⟩ : ∃ r_, r_ = M.spec_RunWarp r111 r118 x2 := ⟨_, rfl⟩
      have H := H r127 hr128
      refine (spec_RunWarp.con hp129 hr128 O43.row O43.le O44.row O44.le O45.row O45.le).mono ?_
      rintro _ w130 ⟨A132, c133, A134, c135, rfl, P46, P47, e131⟩
      have N46_4 := P46.apart_old O4.lt
      have N46_42 := P46.apart_old O42.lt
      have N43_46 := Own.apart2_new O43 P46 (Nat.le_refl _)
      have N44_46 := Own.apart2_new O44 P46 (Nat.le_refl _)
      have N45_46 := Own.apart2_new O45 P46 (Nat.le_refl _)
      have N47_4 := P47.apart_old O4.lt
      have N47_42 := P47.apart_old O42.lt
      have N43_47 := Own.apart2_new O43 P47 (Nat.le_refl _)
      have N44_47 := Own.apart2_new O44 P47 (Nat.le_refl _)
      have N45_47 := Own.apart2_new O45 P47 (Nat.le_refl _)
      have O4 := O4.ext e131
      have O42 := O42.ext e131
      have O43 := O43.ext e131
      have O44 := O44.ext e131
      have O45 := O45.ext e131
      have LB46 := (P46.mono hS44.size).low
      have LB47 := (P47.mono hS44.size).low
      have O46 := P46.mono hB.size
      have O47 := P47.mono hB.size
      have hB := ethen hB e131
      have hS44 := hS44.then e131
      refine ⟨(.agg #[(.int .i64 r127.1.Number), (.slice A132 r127.1.Frames.length c133), (.slice A134 r127.1.Regs.length c135)]), ?_⟩
      refine ⟨r127.1.Number, trivial, ?_⟩
      refine ⟨A132, r127.1.Frames.length, c133, trivial, ?_⟩
      refine ⟨A134, r127.1.Regs.length, c135, trivial, ?_⟩
      refine ⟨rfl, ?_⟩
      refine ⟨(.int .i64 r127.2), ?_⟩
      refine ⟨r127.2, rfl, ?_⟩
      refine ⟨rfl, ?_⟩
      refine ⟨sameBut_chg hS44, ?_⟩
      refine stBlk O42 (o := 0) (cs' := #[(.int .i64 r127.1.Number), (.slice A132 r127.1.Frames.length c133), (.slice A134 r127.1.Regs.length c135)]) rfl rfl (Nat.le_of_ble_eq_true rfl) rfl (fun w136 P42 e137 => ?_)
      have O4_ := O4.chg e137 N4_42
      have O43_ := O43.chg e137 N43_42
      have O44_ := O44.chg e137 N44_42
      have O45_ := O45.chg e137 N45_42
      have O46_ := O46.chg e137 N46_42
      have O47_ := O47.chg e137 N47_42
      have O4 := O4_
      have O43 := O43_
      have O44 := O44_
      have O45 := O45_
      have O46 := O46_
      have O47 := O47_
      have hB := echg hB e137 L42
      have hS44 := hS44.chgb e137 (Or.inl LB42)
      have O42 := P42
      refine ⟨sameBut_chg hS44, ?_⟩
      exact ⟨r127.1.Number, r127.1.Frames, r127.1.Regs, r127.2, g42_, A132, c133, A134, c135, rfl, H, hB, O42, L42, O46, O47, O4⟩
    exact trivial
  rintro _ w42 ⟨i33, xs34, xs37, i40, g25_, A35, c36, A38, c39, rfl, H, hB, O25, L25, O26, O27, O4⟩
  have H := hKK364 _ H
  try dsimp only at H ⊢
  obtain ⟨hp140, H⟩ := H
  obtain ⟨r138, hr139⟩ : ∃ r_, r_ = M.laws_toInsS xs0 := ⟨_, rfl⟩
  have H := H r138 hr139
  refine (laws_toInsS.con hp140 hr139 (R0.ext hB) hc0).mono ?_
  rintro _ w141 ⟨A143, c144, rfl, P48, e142⟩
  have N48_4 := P48.apart_old O4.lt
  have N48_25 := P48.apart_old O25.lt
  have N26_48 := Own.apart2_new O26 P48 (Nat.le_refl _)
  have N27_48 := Own.apart2_new O27 P48 (Nat.le_refl _)
  have O4 := O4.ext e142
  have O25 := O25.ext e142
  have O26 := O26.ext e142
  have O27 := O27.ext e142
  have O48 := P48.mono hB.size
  have hB := ethen hB e142
  refine ⟨A143, r138.length, c144, rfl, ?_⟩
  refine ⟨_, (O4.at 0 rfl rfl), ?_⟩
  refine ⟨_, _, _, (O4.at 1 rfl rfl), ?_⟩
  refine ⟨_, _, _, (O4.at 2 rfl rfl), ?_⟩
  obtain ⟨hp147, H⟩ := H
  obtain ⟨r145, hr146⟩ : ∃ r_, r_ = M.laws_toWarp s1 := ⟨_, rfl⟩
  have H := H r145 hr146
  refine (laws_toWarp.con hp147 hr146 (R1_1.ext hB) hc1_1 (R1_2.ext hB) hc1_2).mono ?_
  rintro _ w148 ⟨A150, c151, A152, c153, rfl, P49, P50, e149⟩
  have N49_4 := P49.apart_old O4.lt
  have N49_25 := P49.apart_old O25.lt
  have N26_49 := Own.apart2_new O26 P49 (Nat.le_refl _)
  have N27_49 := Own.apart2_new O27 P49 (Nat.le_refl _)
  have N48_49 := Own.apart2_new O48 P49 (Nat.le_refl _)
  have N50_4 := P50.apart_old O4.lt
  have N50_25 := P50.apart_old O25.lt
  have N26_50 := Own.apart2_new O26 P50 (Nat.le_refl _)
  have N27_50 := Own.apart2_new O27 P50 (Nat.le_refl _)
  have N48_50 := Own.apart2_new O48 P50 (Nat.le_refl _)
  have O4 := O4.ext e149
  have O25 := O25.ext e149
  have O26 := O26.ext e149
  have O27 := O27.ext e149
  have O48 := O48.ext e149
  have O49 := P49.mono hB.size
  have O50 := P50.mono hB.size
  have hB := ethen hB e149
  refine ⟨r145.Number, trivial, ?_⟩
  refine ⟨A150, r145.Frames.length, c151, trivial, ?_⟩
  refine ⟨A152, r145.Regs.length, c153, trivial, ?_⟩
  refine ⟨rfl, ?_⟩
  refine newBlk (fun g51_ w154 L51 P51 e155 => ?_)
  have N4_51 := O4.ne L51
  have N25_51 := O25.ne L51
  have N26_51 := O26.apart_new L51
  have N27_51 := O27.apart_new L51
  have N48_51 := O48.apart_new L51
  have N49_51 := O49.apart_new L51
  have N50_51 := O50.apart_new L51
  have O4 := O4.ext e155
  have O25 := O25.ext e155
  have O26 := O26.ext e155
  have O27 := O27.ext e155
  have O48 := O48.ext e155
  have O49 := O49.ext e155
  have O50 := O50.ext e155
  have O51 := P51
  have L51 := Nat.le_trans hB.size L51
  have hB := ethen hB e155
  refine stBlk O51 (o := 0) (cs' := #[(.int .i64 r145.Number), (.slice A150 r145.Frames.length c151), (.slice A152 r145.Regs.length c153)]) rfl rfl (Nat.le_of_ble_eq_true rfl) rfl (fun w156 P51 e157 => ?_)
  have O4_ := O4.chg e157 N4_51
  have O25_ := O25.chg e157 N25_51
  have O26_ := O26.chg e157 N26_51
  have O27_ := O27.chg e157 N27_51
  have O48_ := O48.chg e157 N48_51
  have O49_ := O49.chg e157 N49_51
  have O50_ := O50.chg e157 N50_51
  have O4 := O4_
  have O25 := O25_
  have O26 := O26_
  have O27 := O27_
  have O48 := O48_
  have O49 := O49_
  have O50 := O50_
  have hB := echg hB e157 L51
  have O51 := P51
  refine ⟨_, (O51.at 0 rfl rfl), ?_⟩
  refine ⟨_, _, _, (O51.at 1 rfl rfl), ?_⟩
  refine ⟨_, _, _, (O51.at 2 rfl rfl), ?_⟩
  obtain ⟨hp160, H⟩ := H
  obtain ⟨r158, hr159⟩ : ∃ r_, r_ = M.impl_RunWarp r138 r145 x2 := ⟨_, rfl⟩
  have H := H r158 hr159
  refine (impl_RunWarp.con hp160 hr159 O48.row O48.le O49.row O49.le O50.row O50.le).mono ?_
  rintro _ w161 ⟨A163, c164, A165, c166, rfl, P52, P53, e162⟩
  have N52_4 := P52.apart_old O4.lt
  have N52_25 := P52.apart_old O25.lt
  have N26_52 := Own.apart2_new O26 P52 (Nat.le_refl _)
  have N27_52 := Own.apart2_new O27 P52 (Nat.le_refl _)
  have N48_52 := Own.apart2_new O48 P52 (Nat.le_refl _)
  have N49_52 := Own.apart2_new O49 P52 (Nat.le_refl _)
  have N50_52 := Own.apart2_new O50 P52 (Nat.le_refl _)
  have N52_51 := P52.apart_old O51.lt
  have N53_4 := P53.apart_old O4.lt
  have N53_25 := P53.apart_old O25.lt
  have N26_53 := Own.apart2_new O26 P53 (Nat.le_refl _)
  have N27_53 := Own.apart2_new O27 P53 (Nat.le_refl _)
  have N48_53 := Own.apart2_new O48 P53 (Nat.le_refl _)
  have N49_53 := Own.apart2_new O49 P53 (Nat.le_refl _)
  have N50_53 := Own.apart2_new O50 P53 (Nat.le_refl _)
  have N53_51 := P53.apart_old O51.lt
  have O4 := O4.ext e162
  have O25 := O25.ext e162
  have O26 := O26.ext e162
  have O27 := O27.ext e162
  have O48 := O48.ext e162
  have O49 := O49.ext e162
  have O50 := O50.ext e162
  have O51 := O51.ext e162
  have O52 := P52.mono hB.size
  have O53 := P53.mono hB.size
  have hB := ethen hB e162
  refine ⟨(.agg #[(.int .i64 r158.1.Number), (.slice A163 r158.1.Frames.length c164), (.slice A165 r158.1.Regs.length c166)]), ?_⟩
  refine ⟨r158.1.Number, trivial, ?_⟩
  refine ⟨A163, r158.1.Frames.length, c164, trivial, ?_⟩
  refine ⟨A165, r158.1.Regs.length, c166, trivial, ?_⟩
  refine ⟨rfl, ?_⟩
  refine ⟨(.int .i64 r158.2), ?_⟩
  refine ⟨r158.2, rfl, ?_⟩
  refine ⟨rfl, ?_⟩
  refine newBlk (fun g54_ w167 L54 P54 e168 => ?_)
  have N4_54 := O4.ne L54
  have N25_54 := O25.ne L54
  have N26_54 := O26.apart_new L54
  have N27_54 := O27.apart_new L54
  have N48_54 := O48.apart_new L54
  have N49_54 := O49.apart_new L54
  have N50_54 := O50.apart_new L54
  have N51_54 := O51.ne L54
  have N52_54 := O52.apart_new L54
  have N53_54 := O53.apart_new L54
  have O4 := O4.ext e168
  have O25 := O25.ext e168
  have O26 := O26.ext e168
  have O27 := O27.ext e168
  have O48 := O48.ext e168
  have O49 := O49.ext e168
  have O50 := O50.ext e168
  have O51 := O51.ext e168
  have O52 := O52.ext e168
  have O53 := O53.ext e168
  have O54 := P54
  have L54 := Nat.le_trans hB.size L54
  have hB := ethen hB e168
  refine stBlk O54 (o := 0) (cs' := #[(.int .i64 r158.1.Number), (.slice A163 r158.1.Frames.length c164), (.slice A165 r158.1.Regs.length c166)]) rfl rfl (Nat.le_of_ble_eq_true rfl) rfl (fun w169 P54 e170 => ?_)
  have O4_ := O4.chg e170 N4_54
  have O25_ := O25.chg e170 N25_54
  have O26_ := O26.chg e170 N26_54
  have O27_ := O27.chg e170 N27_54
  have O48_ := O48.chg e170 N48_54
  have O49_ := O49.chg e170 N49_54
  have O50_ := O50.chg e170 N50_54
  have O51_ := O51.chg e170 N51_54
  have O52_ := O52.chg e170 N52_54
  have O53_ := O53.chg e170 N53_54
  have O4 := O4_
  have O25 := O25_
  have O26 := O26_
  have O27 := O27_
  have O48 := O48_
  have O49 := O49_
  have O50 := O50_
  have O51 := O51_
  have O52 := O52_
  have O53 := O53_
  have hB := echg hB e170 L54
  have O54 := P54
  refine ⟨_, (O54.at 0 rfl rfl), ?_⟩
  refine ⟨_, _, _, (O54.at 1 rfl rfl), ?_⟩
  refine ⟨_, _, _, (O54.at 2 rfl rfl), ?_⟩
  refine ⟨_, (O25.at 0 rfl rfl), ?_⟩
  refine ⟨_, _, _, (O25.at 1 rfl rfl), ?_⟩
  refine ⟨_, _, _, (O25.at 2 rfl rfl), ?_⟩
  obtain ⟨hp173, H⟩ := H
  obtain ⟨r171, hr172⟩ : ∃ r_, r_ = M.laws_eqWarp r158.1 (⟨i33, xs34, xs37⟩ : D.Warp) := ⟨_, rfl⟩
  have H := H r171 hr172
  refine (laws_eqWarp.con hp173 hr172 O52.row O52.le O53.row O53.le O26.row O26.le O27.row O27.le).mono ?_
  rintro _ w174 ⟨rfl, e175⟩
  have O4 := O4.ext e175
  have O25 := O25.ext e175
  have O26 := O26.ext e175
  have O27 := O27.ext e175
  have O48 := O48.ext e175
  have O49 := O49.ext e175
  have O50 := O50.ext e175
  have O51 := O51.ext e175
  have O52 := O52.ext e175
  have O53 := O53.ext e175
  have O54 := O54.ext e175
  have hB := ethen hB e175
  refine ⟨r171, rfl, ?_⟩
  refine bcase_mk (fun hc362 => ?_) (fun hc362 => ?_)
  · have H := (bcase_iff.1 H).1 hc362
    obtain rfl := hr.trans H.symm
    exact ⟨rfl, hB⟩
  have H := (bcase_iff.1 H).2 hc362
  refine bcase_mk (fun hc361 => ?_) (fun hc361 => ?_)
  · have H := (bcase_iff.1 H).1 hc361
    obtain rfl := hr.trans H.symm
    exact ⟨rfl, hB⟩
  have H := (bcase_iff.1 H).2 hc361
  obtain ⟨hp178, H⟩ := H
  obtain ⟨r176, hr177⟩ : ∃ r_, r_ = M.laws_toInsS xs0 := ⟨_, rfl⟩
  have H := H r176 hr177
  refine (laws_toInsS.con hp178 hr177 (R0.ext hB) hc0).mono ?_
  rintro _ w179 ⟨A181, c182, rfl, P55, e180⟩
  have N55_4 := P55.apart_old O4.lt
  have N55_25 := P55.apart_old O25.lt
  have N26_55 := Own.apart2_new O26 P55 (Nat.le_refl _)
  have N27_55 := Own.apart2_new O27 P55 (Nat.le_refl _)
  have N48_55 := Own.apart2_new O48 P55 (Nat.le_refl _)
  have N49_55 := Own.apart2_new O49 P55 (Nat.le_refl _)
  have N50_55 := Own.apart2_new O50 P55 (Nat.le_refl _)
  have N55_51 := P55.apart_old O51.lt
  have N52_55 := Own.apart2_new O52 P55 (Nat.le_refl _)
  have N53_55 := Own.apart2_new O53 P55 (Nat.le_refl _)
  have N55_54 := P55.apart_old O54.lt
  have O4 := O4.ext e180
  have O25 := O25.ext e180
  have O26 := O26.ext e180
  have O27 := O27.ext e180
  have O48 := O48.ext e180
  have O49 := O49.ext e180
  have O50 := O50.ext e180
  have O51 := O51.ext e180
  have O52 := O52.ext e180
  have O53 := O53.ext e180
  have O54 := O54.ext e180
  have O55 := P55.mono hB.size
  have hB := ethen hB e180
  refine ⟨A181, r176.length, c182, rfl, ?_⟩
  obtain ⟨hp185, H⟩ := H
  obtain ⟨r183, hr184⟩ : ∃ r_, r_ = M.laws_eqInsS r138 r176 := ⟨_, rfl⟩
  have H := H r183 hr184
  refine (laws_eqInsS.con hp185 hr184 O48.row O48.le O55.row O55.le).mono ?_
  rintro _ w186 ⟨rfl, e187⟩
  have O4 := O4.ext e187
  have O25 := O25.ext e187
  have O26 := O26.ext e187
  have O27 := O27.ext e187
  have O48 := O48.ext e187
  have O49 := O49.ext e187
  have O50 := O50.ext e187
  have O51 := O51.ext e187
  have O52 := O52.ext e187
  have O53 := O53.ext e187
  have O54 := O54.ext e187
  have O55 := O55.ext e187
  have hB := ethen hB e187
  refine ⟨r183, rfl, ?_⟩
  refine bcase_mk (fun hc360 => ?_) (fun hc360 => ?_)
  · have H := (bcase_iff.1 H).1 hc360
    obtain rfl := hr.trans H.symm
    exact ⟨rfl, hB⟩
  have H := (bcase_iff.1 H).2 hc360
  refine ⟨(fun _ => False), ?_⟩
  refine ⟨_, ⟨(fun h_ => h_), (O51.at 0 rfl rfl)⟩, ?_⟩
  refine ⟨_, _, _, ⟨(fun h_ => h_), (O51.at 1 rfl rfl)⟩, ?_⟩
  refine ⟨_, _, _, ⟨(fun h_ => h_), (O51.at 2 rfl rfl)⟩, ?_⟩
  refine ⟨_, ⟨(fun h_ => h_), (O4.at 0 rfl rfl)⟩, ?_⟩
  refine ⟨_, _, _, ⟨(fun h_ => h_), (O4.at 1 rfl rfl)⟩, ?_⟩
  refine ⟨_, _, _, ⟨(fun h_ => h_), (O4.at 2 rfl rfl)⟩, ?_⟩
  have hS188 := Chg.refl (fun _ => False) w186
  have O4 := O4.ext (Ext.drew _)
  have O25 := O25.ext (Ext.drew _)
  have O26 := O26.ext (Ext.drew _)
  have O27 := O27.ext (Ext.drew _)
  have O48 := O48.ext (Ext.drew _)
  have O49 := O49.ext (Ext.drew _)
  have O50 := O50.ext (Ext.drew _)
  have O51 := O51.ext (Ext.drew _)
  have O52 := O52.ext (Ext.drew _)
  have O53 := O53.ext (Ext.drew _)
  have O54 := O54.ext (Ext.drew _)
  have hB := ethen hB (Ext.drew _)
  have hS188 := hS188.then (Ext.drew _)
  obtain ⟨hp191, H⟩ := H
  obtain ⟨r189, hr190⟩ : ∃ r_, r_ = M.laws_toWarp s1 := ⟨_, rfl⟩
  have H := H r189 hr190
  refine (laws_toWarp.con hp191 hr190 (R1_1.ext hB) hc1_1 (R1_2.ext hB) hc1_2).mono ?_
  rintro _ w192 ⟨A194, c195, A196, c197, rfl, P56, P57, e193⟩
  have N56_4 := P56.apart_old O4.lt
  have N56_25 := P56.apart_old O25.lt
  have N26_56 := Own.apart2_new O26 P56 (Nat.le_refl _)
  have N27_56 := Own.apart2_new O27 P56 (Nat.le_refl _)
  have N48_56 := Own.apart2_new O48 P56 (Nat.le_refl _)
  have N49_56 := Own.apart2_new O49 P56 (Nat.le_refl _)
  have N50_56 := Own.apart2_new O50 P56 (Nat.le_refl _)
  have N56_51 := P56.apart_old O51.lt
  have N52_56 := Own.apart2_new O52 P56 (Nat.le_refl _)
  have N53_56 := Own.apart2_new O53 P56 (Nat.le_refl _)
  have N56_54 := P56.apart_old O54.lt
  have N57_4 := P57.apart_old O4.lt
  have N57_25 := P57.apart_old O25.lt
  have N26_57 := Own.apart2_new O26 P57 (Nat.le_refl _)
  have N27_57 := Own.apart2_new O27 P57 (Nat.le_refl _)
  have N48_57 := Own.apart2_new O48 P57 (Nat.le_refl _)
  have N49_57 := Own.apart2_new O49 P57 (Nat.le_refl _)
  have N50_57 := Own.apart2_new O50 P57 (Nat.le_refl _)
  have N57_51 := P57.apart_old O51.lt
  have N52_57 := Own.apart2_new O52 P57 (Nat.le_refl _)
  have N53_57 := Own.apart2_new O53 P57 (Nat.le_refl _)
  have N57_54 := P57.apart_old O54.lt
  have O4 := O4.ext e193
  have O25 := O25.ext e193
  have O26 := O26.ext e193
  have O27 := O27.ext e193
  have O48 := O48.ext e193
  have O49 := O49.ext e193
  have O50 := O50.ext e193
  have O51 := O51.ext e193
  have O52 := O52.ext e193
  have O53 := O53.ext e193
  have O54 := O54.ext e193
  have LB56 := (P56.mono hS188.size).low
  have LB57 := (P57.mono hS188.size).low
  have O56 := P56.mono hB.size
  have O57 := P57.mono hB.size
  have hB := ethen hB e193
  have hS188 := hS188.then e193
  refine ⟨r189.Number, trivial, ?_⟩
  refine ⟨A194, r189.Frames.length, c195, trivial, ?_⟩
  refine ⟨A196, r189.Regs.length, c197, trivial, ?_⟩
  refine ⟨rfl, ?_⟩
  refine ⟨sameBut_chg hS188, ?_⟩
  obtain ⟨hp200, H⟩ := H
  obtain ⟨r198, hr199⟩ : ∃ r_, r_ = M.laws_eqWarp r145 r189 := ⟨_, rfl⟩
  have H := H r198 hr199
  refine (laws_eqWarp.con hp200 hr199 O49.row O49.le O50.row O50.le O56.row O56.le O57.row O57.le).mono ?_
  rintro _ w201 ⟨rfl, e202⟩
  have O4 := O4.ext e202
  have O25 := O25.ext e202
  have O26 := O26.ext e202
  have O27 := O27.ext e202
  have O48 := O48.ext e202
  have O49 := O49.ext e202
  have O50 := O50.ext e202
  have O51 := O51.ext e202
  have O52 := O52.ext e202
  have O53 := O53.ext e202
  have O54 := O54.ext e202
  have O56 := O56.ext e202
  have O57 := O57.ext e202
  have hB := ethen hB e202
  have hS188 := hS188.then e202
  refine ⟨r198, rfl, ?_⟩
  refine ⟨sameBut_chg hS188, ?_⟩
  refine bcase_mk (fun hc359 => ?_) (fun hc359 => ?_)
  · have H := (bcase_iff.1 H).1 hc359
    obtain rfl := hr.trans H.symm
    exact ⟨rfl, hB⟩
  have H := (bcase_iff.1 H).2 hc359
  obtain ⟨hp205, H⟩ := H
  obtain ⟨r203, hr204⟩ : ∃ r_, r_ = M.laws_markInsS r138 1 := ⟨_, rfl⟩
  have H := H r203 hr204
  refine (laws_markInsS.con hp205 hr204 (O48.mono (Nat.zero_le _))).mono ?_
  rintro _ w206 ⟨rfl, Q48, hl208, e207⟩
  have O4 := O4.chgS e207 (N48_4).inb
  have O25 := O25.chgS e207 (N48_25).inb
  have O26 := O26.chgS e207 (N26_48).inb
  have O27 := O27.chgS e207 (N27_48).inb
  have O49 := O49.chgS e207 ((N48_49).symm).inb
  have O50 := O50.chgS e207 ((N48_50).symm).inb
  have O51 := O51.chgS e207 (N48_51).inb
  have O52 := O52.chgS e207 ((N48_52).symm).inb
  have O53 := O53.chgS e207 ((N48_53).symm).inb
  have O54 := O54.chgS e207 (N48_54).inb
  have hB := Chg.ext hB e207 O48.low
  have O48 := Q48.up O48
  refine ⟨r203.1, rfl, ?_⟩
  refine ⟨_, (O51.at 0 rfl rfl), ?_⟩
  refine ⟨_, _, _, (O51.at 1 rfl rfl), ?_⟩
  refine ⟨_, _, _, (O51.at 2 rfl rfl), ?_⟩
  obtain ⟨hp211, H⟩ := H
  obtain ⟨r209, hr210⟩ : ∃ r_, r_ = M.laws_markWarp r145 r203.1 := ⟨_, rfl⟩
  have H := H r209 hr210
  refine (laws_markWarp.con hp211 hr210 (O49.mono (Nat.zero_le _)) (O50.mono (Nat.zero_le _))).mono ?_
  rintro _ w212 ⟨rfl, Q49, hl214, Q50, hl215, e213⟩
  have O4 := O4.chgS e213 (fun hS_ => hS_.elim (N49_4).inb (N50_4).inb)
  have O25 := O25.chgS e213 (fun hS_ => hS_.elim (N49_25).inb (N50_25).inb)
  have O26 := O26.chgS e213 (fun g h_ => (fun hS_ => hS_.elim ((N26_49).inb g h_) ((N26_50).inb g h_)))
  have O27 := O27.chgS e213 (fun g h_ => (fun hS_ => hS_.elim ((N27_49).inb g h_) ((N27_50).inb g h_)))
  have O51 := O51.chgS e213 (fun hS_ => hS_.elim (N49_51).inb (N50_51).inb)
  have O52 := O52.chgS e213 (fun g h_ => (fun hS_ => hS_.elim (((N49_52).symm).inb g h_) (((N50_52).symm).inb g h_)))
  have O53 := O53.chgS e213 (fun g h_ => (fun hS_ => hS_.elim (((N49_53).symm).inb g h_) (((N50_53).symm).inb g h_)))
  have O54 := O54.chgS e213 (fun hS_ => hS_.elim (N49_54).inb (N50_54).inb)
  have hB := Chg.ext hB e213 (fun g => (fun hS_ => hS_.elim (O49.low g) (O50.low g)))
  have O49 := Q49.up O49
  have O50 := Q50.up O50
  refine ⟨r209.1, rfl, ?_⟩
  refine bcase_mk (fun hc358 => ?_) (fun hc358 => ?_)
  · have H := (bcase_iff.1 H).1 hc358
    obtain rfl := hr.trans H.symm
    exact ⟨rfl, hB⟩
  have H := (bcase_iff.1 H).2 hc358
  refine ⟨_, (O54.at 0 rfl rfl), ?_⟩
  refine ⟨_, _, _, (O54.at 1 rfl rfl), ?_⟩
  refine ⟨_, _, _, (O54.at 2 rfl rfl), ?_⟩
  refine ⟨_, (O25.at 0 rfl rfl), ?_⟩
  refine ⟨_, _, _, (O25.at 1 rfl rfl), ?_⟩
  refine ⟨_, _, _, (O25.at 2 rfl rfl), ?_⟩
  obtain ⟨hp218, H⟩ := H
  obtain ⟨r216, hr217⟩ : ∃ r_, r_ = M.laws_eqWarp r158.1 (⟨i33, xs34, xs37⟩ : D.Warp) := ⟨_, rfl⟩
  have H := H r216 hr217
  refine (laws_eqWarp.con hp218 hr217 O52.row O52.le O53.row O53.le O26.row O26.le O27.row O27.le).mono ?_
  rintro _ w219 ⟨rfl, e220⟩
  have O4 := O4.ext e220
  have O25 := O25.ext e220
  have O26 := O26.ext e220
  have O27 := O27.ext e220
  have O52 := O52.ext e220
  have O53 := O53.ext e220
  have O54 := O54.ext e220
  have hB := ethen hB e220
  refine ⟨r216, rfl, ?_⟩
  refine bcase_mk (fun hc357 => ?_) (fun hc357 => ?_)
  · have H := (bcase_iff.1 H).1 hc357
    obtain rfl := hr.trans H.symm
    exact ⟨rfl, hB⟩
  have H := (bcase_iff.1 H).2 hc357
  refine bcase_mk (fun hc356 => ?_) (fun hc356 => ?_)
  · have H := (bcase_iff.1 H).1 hc356
    obtain rfl := hr.trans H.symm
    exact ⟨rfl, hB⟩
  have H := (bcase_iff.1 H).2 hc356
  refine ⟨_, (O54.at 0 rfl rfl), ?_⟩
  refine ⟨_, _, _, (O54.at 1 rfl rfl), ?_⟩
  refine ⟨_, _, _, (O54.at 2 rfl rfl), ?_⟩
  obtain ⟨hp223, H⟩ := H
  obtain ⟨r221, hr222⟩ : ∃ r_, r_ = M.laws_markWarp r158.1 1 := ⟨_, rfl⟩
  have H := H r221 hr222
  refine (laws_markWarp.con hp223 hr222 (O52.mono (Nat.zero_le _)) (O53.mono (Nat.zero_le _))).mono ?_
  rintro _ w224 ⟨rfl, Q52, hl226, Q53, hl227, e225⟩
  have O4 := O4.chgS e225 (fun hS_ => hS_.elim (N52_4).inb (N53_4).inb)
  have O25 := O25.chgS e225 (fun hS_ => hS_.elim (N52_25).inb (N53_25).inb)
  have O26 := O26.chgS e225 (fun g h_ => (fun hS_ => hS_.elim ((N26_52).inb g h_) ((N26_53).inb g h_)))
  have O27 := O27.chgS e225 (fun g h_ => (fun hS_ => hS_.elim ((N27_52).inb g h_) ((N27_53).inb g h_)))
  have O54 := O54.chgS e225 (fun hS_ => hS_.elim (N52_54).inb (N53_54).inb)
  have hB := Chg.ext hB e225 (fun g => (fun hS_ => hS_.elim (O52.low g) (O53.low g)))
  have O52 := Q52.up O52
  have O53 := Q53.up O53
  refine ⟨r221.1, rfl, ?_⟩
  refine ⟨_, (O54.at 0 rfl rfl), ?_⟩
  refine ⟨_, _, _, (O54.at 1 rfl rfl), ?_⟩
  refine ⟨_, _, _, (O54.at 2 rfl rfl), ?_⟩
  obtain ⟨hp230, H⟩ := H
  obtain ⟨r228, hr229⟩ : ∃ r_, r_ = M.laws_heldWarp (⟨r158.1.Number, r221.2.1, r221.2.2⟩ : D.Warp) 1 := ⟨_, rfl⟩
  have H := H r228 hr229
  refine (cllArgs (by first | (simp only [List.length_set, hl226, hl227]; done) | (simp; done)) (laws_heldWarp.con hp230 hr229 O52.row O52.le O53.row O53.le)).mono ?_
  rintro _ w231 ⟨rfl, e232⟩
  have O4 := O4.ext e232
  have O25 := O25.ext e232
  have O26 := O26.ext e232
  have O27 := O27.ext e232
  have O52 := O52.ext e232
  have O53 := O53.ext e232
  have O54 := O54.ext e232
  have hB := ethen hB e232
  refine ⟨r228, rfl, ?_⟩
  refine bcase_mk (fun hc355 => ?_) (fun hc355 => ?_)
  · have H := (bcase_iff.1 H).1 hc355
    obtain rfl := hr.trans H.symm
    exact ⟨rfl, hB⟩
  have H := (bcase_iff.1 H).2 hc355
  refine bcase_mk (fun hc354 => ?_) (fun hc354 => ?_)
  · have H := (bcase_iff.1 H).1 hc354
    obtain rfl := hr.trans H.symm
    exact ⟨rfl, hB⟩
  have H := (bcase_iff.1 H).2 hc354
  obtain ⟨K353, hKK353, H⟩ := joinP_out H
  refine ⟨fun z_ w_ => ∃ (i233 : Int) (xs234 : List D.Frame) (xs237 : List Int) (i240 : Int) (g78_ : Nat) (A235 : Option Addr) (c236 : Nat) (A238 : Option Addr) (c239 : Nat), z_ = ((⟨g78_, 0, none⟩ : Addr), i240, ()) ∧ K353 (i233, xs234, xs237, i240, ()) ∧ Ext w w_ ∧ Blk w_ g78_ 31 #[(.int .i64 i233), (.slice A235 xs234.length c236), (.slice A238 xs237.length c239)] ∧ w.heap.size ≤ g78_ ∧ Own el130 w_ w.heap.size A235 c236 xs234 ∧ Own el3 w_ w.heap.size A238 c239 xs237 ∧ Blk w_ g25_ 31 #[(.int .i64 i33), (.slice A35 xs34.length c36), (.slice A38 xs37.length c39)] ∧ Own el130 w_ w.heap.size A35 c36 xs34 ∧ Own el3 w_ w.heap.size A38 c39 xs37 ∧ Own el130 w_ w.heap.size A163 c164 r221.2.1 ∧ Own el3 w_ w.heap.size A165 c166 r221.2.2 ∧ Blk w_ g54_ 31 #[(.int .i64 r158.1.Number), (.slice A163 r158.1.Frames.length c164), (.slice A165 r158.1.Regs.length c166)] ∧ g25_ ≠ g78_ ∧ Apart2 A35 A235 ∧ Apart2 A38 A238 ∧ Apart2 A163 A235 ∧ Apart2 A165 A238 ∧ g54_ ≠ g78_, ?_, ?_⟩
  · refine ⟨(fun _ => False), ?_⟩
    refine ⟨_, ⟨(fun h_ => h_), (O4.at 0 rfl rfl)⟩, ?_⟩
    refine ⟨_, _, _, ⟨(fun h_ => h_), (O4.at 1 rfl rfl)⟩, ?_⟩
    refine ⟨_, _, _, ⟨(fun h_ => h_), (O4.at 2 rfl rfl)⟩, ?_⟩
    refine And.intro ?_ ?_
    · have H := H.1
      have hS244 := Chg.refl (fun _ => False) w231
      have O4 := O4.ext (Ext.drew _)
      have O25 := O25.ext (Ext.drew _)
      have O26 := O26.ext (Ext.drew _)
      have O27 := O27.ext (Ext.drew _)
      have O52 := O52.ext (Ext.drew _)
      have O53 := O53.ext (Ext.drew _)
      have O54 := O54.ext (Ext.drew _)
      have hB := ethen hB (Ext.drew _)
      have hS244 := hS244.then (Ext.drew _)
      obtain ⟨hp247, H⟩ := H
      obtain ⟨r245, hr246⟩ : ∃ r_, r_ = M.laws_toInsS xs0 := ⟨_, rfl⟩
      have H := H r245 hr246
      refine (laws_toInsS.con hp247 hr246 (R0.ext hB) hc0).mono ?_
      rintro _ w248 ⟨A250, c251, rfl, P81, e249⟩
      have N81_4 := P81.apart_old O4.lt
      have N81_25 := P81.apart_old O25.lt
      have N26_81 := Own.apart2_new O26 P81 (Nat.le_refl _)
      have N27_81 := Own.apart2_new O27 P81 (Nat.le_refl _)
      have N52_81 := Own.apart2_new O52 P81 (Nat.le_refl _)
      have N53_81 := Own.apart2_new O53 P81 (Nat.le_refl _)
      have N81_54 := P81.apart_old O54.lt
      have O4 := O4.ext e249
      have O25 := O25.ext e249
      have O26 := O26.ext e249
      have O27 := O27.ext e249
      have O52 := O52.ext e249
      have O53 := O53.ext e249
      have O54 := O54.ext e249
      have LB81 := (P81.mono hS244.size).low
      have O81 := P81.mono hB.size
      have hB := ethen hB e249
      have hS244 := hS244.then e249
      refine ⟨A250, r245.length, c251, rfl, ?_⟩
      refine ⟨sameBut_chg hS244, ?_⟩
      refine And.intro ?_ ?_
      · have H := H.1
        obtain ⟨hp254, H⟩ := H
        obtain ⟨r252, hr253⟩ : ∃ r_, r_ = M.laws_toWarp s1 := ⟨_, rfl⟩
        have H := H r252 hr253
        refine (laws_toWarp.con hp254 hr253 (R1_1.ext hB) hc1_1 (R1_2.ext hB) hc1_2).mono ?_
        rintro _ w255 ⟨A257, c258, A259, c260, rfl, P82, P83, e256⟩
        have N82_4 := P82.apart_old O4.lt
        have N82_25 := P82.apart_old O25.lt
        have N26_82 := Own.apart2_new O26 P82 (Nat.le_refl _)
        have N27_82 := Own.apart2_new O27 P82 (Nat.le_refl _)
        have N52_82 := Own.apart2_new O52 P82 (Nat.le_refl _)
        have N53_82 := Own.apart2_new O53 P82 (Nat.le_refl _)
        have N82_54 := P82.apart_old O54.lt
        have N81_82 := Own.apart2_new O81 P82 (Nat.le_refl _)
        have N83_4 := P83.apart_old O4.lt
        have N83_25 := P83.apart_old O25.lt
        have N26_83 := Own.apart2_new O26 P83 (Nat.le_refl _)
        have N27_83 := Own.apart2_new O27 P83 (Nat.le_refl _)
        have N52_83 := Own.apart2_new O52 P83 (Nat.le_refl _)
        have N53_83 := Own.apart2_new O53 P83 (Nat.le_refl _)
        have N83_54 := P83.apart_old O54.lt
        have N81_83 := Own.apart2_new O81 P83 (Nat.le_refl _)
        have O4 := O4.ext e256
        have O25 := O25.ext e256
        have O26 := O26.ext e256
        have O27 := O27.ext e256
        have O52 := O52.ext e256
        have O53 := O53.ext e256
        have O54 := O54.ext e256
        have O81 := O81.ext e256
        have LB82 := (P82.mono hS244.size).low
        have LB83 := (P83.mono hS244.size).low
        have O82 := P82.mono hB.size
        have O83 := P83.mono hB.size
        have hB := ethen hB e256
        have hS244 := hS244.then e256
        refine ⟨r252.Number, trivial, ?_⟩
        refine ⟨A257, r252.Frames.length, c258, trivial, ?_⟩
        refine ⟨A259, r252.Regs.length, c260, trivial, ?_⟩
        refine ⟨rfl, ?_⟩
        refine ⟨sameBut_chg hS244, ?_⟩
        refine And.intro ?_ ?_
        · have H := H.1
          obtain ⟨hp263, H⟩ := H
          obtain ⟨r261, hr262⟩ : ∃ r_, r_ = M.impl_RunWarp r245 r252 x2 := ⟨_, rfl⟩
          have H := H r261 hr262
          refine (impl_RunWarp.con hp263 hr262 O81.row O81.le O82.row O82.le O83.row O83.le).mono ?_
          rintro _ w264 ⟨A266, c267, A268, c269, rfl, P84, P85, e265⟩
          have N84_4 := P84.apart_old O4.lt
          have N84_25 := P84.apart_old O25.lt
          have N26_84 := Own.apart2_new O26 P84 (Nat.le_refl _)
          have N27_84 := Own.apart2_new O27 P84 (Nat.le_refl _)
          have N52_84 := Own.apart2_new O52 P84 (Nat.le_refl _)
          have N53_84 := Own.apart2_new O53 P84 (Nat.le_refl _)
          have N84_54 := P84.apart_old O54.lt
          have N81_84 := Own.apart2_new O81 P84 (Nat.le_refl _)
          have N82_84 := Own.apart2_new O82 P84 (Nat.le_refl _)
          have N83_84 := Own.apart2_new O83 P84 (Nat.le_refl _)
          have N85_4 := P85.apart_old O4.lt
          have N85_25 := P85.apart_old O25.lt
          have N26_85 := Own.apart2_new O26 P85 (Nat.le_refl _)
          have N27_85 := Own.apart2_new O27 P85 (Nat.le_refl _)
          have N52_85 := Own.apart2_new O52 P85 (Nat.le_refl _)
          have N53_85 := Own.apart2_new O53 P85 (Nat.le_refl _)
          have N85_54 := P85.apart_old O54.lt
          have N81_85 := Own.apart2_new O81 P85 (Nat.le_refl _)
          have N82_85 := Own.apart2_new O82 P85 (Nat.le_refl _)
          have N83_85 := Own.apart2_new O83 P85 (Nat.le_refl _)
          have O4 := O4.ext e265
          have O25 := O25.ext e265
          have O26 := O26.ext e265
          have O27 := O27.ext e265
          have O52 := O52.ext e265
          have O53 := O53.ext e265
          have O54 := O54.ext e265
          have O81 := O81.ext e265
          have O82 := O82.ext e265
          have O83 := O83.ext e265
          have LB84 := (P84.mono hS244.size).low
          have LB85 := (P85.mono hS244.size).low
          have O84 := P84.mono hB.size
          have O85 := P85.mono hB.size
          have hB := ethen hB e265
          have hS244 := hS244.then e265
          refine ⟨(.agg #[(.int .i64 r261.1.Number), (.slice A266 r261.1.Frames.length c267), (.slice A268 r261.1.Regs.length c269)]), ?_⟩
          refine ⟨r261.1.Number, trivial, ?_⟩
          refine ⟨A266, r261.1.Frames.length, c267, trivial, ?_⟩
          refine ⟨A268, r261.1.Regs.length, c269, trivial, ?_⟩
          refine ⟨rfl, ?_⟩
          refine ⟨(.int .i64 r261.2), ?_⟩
          refine ⟨r261.2, rfl, ?_⟩
          refine ⟨rfl, ?_⟩
          refine ⟨sameBut_chg hS244, ?_⟩
          refine newBlk (fun g86_ w270 L86 P86 e271 => ?_)
          have N4_86 := O4.ne L86
          have N25_86 := O25.ne L86
          have N26_86 := O26.apart_new L86
          have N27_86 := O27.apart_new L86
          have N52_86 := O52.apart_new L86
          have N53_86 := O53.apart_new L86
          have N54_86 := O54.ne L86
          have N81_86 := O81.apart_new L86
          have N82_86 := O82.apart_new L86
          have N83_86 := O83.apart_new L86
          have N84_86 := O84.apart_new L86
          have N85_86 := O85.apart_new L86
          have O4 := O4.ext e271
          have O25 := O25.ext e271
          have O26 := O26.ext e271
          have O27 := O27.ext e271
          have O52 := O52.ext e271
          have O53 := O53.ext e271
          have O54 := O54.ext e271
          have O81 := O81.ext e271
          have O82 := O82.ext e271
          have O83 := O83.ext e271
          have O84 := O84.ext e271
          have O85 := O85.ext e271
          have O86 := P86
          have LB86 := Nat.le_trans hS244.size L86
          have L86 := Nat.le_trans hB.size L86
          have hB := ethen hB e271
          have hS244 := hS244.then e271
          refine ⟨sameBut_chg hS244, ?_⟩
          refine stBlk O86 (o := 0) (cs' := #[(.int .i64 r261.1.Number), (.slice A266 r261.1.Frames.length c267), (.slice A268 r261.1.Regs.length c269)]) rfl rfl (Nat.le_of_ble_eq_true rfl) rfl (fun w272 P86 e273 => ?_)
          have O4_ := O4.chg e273 N4_86
          have O25_ := O25.chg e273 N25_86
          have O26_ := O26.chg e273 N26_86
          have O27_ := O27.chg e273 N27_86
          have O52_ := O52.chg e273 N52_86
          have O53_ := O53.chg e273 N53_86
          have O54_ := O54.chg e273 N54_86
          have O81_ := O81.chg e273 N81_86
          have O82_ := O82.chg e273 N82_86
          have O83_ := O83.chg e273 N83_86
          have O84_ := O84.chg e273 N84_86
          have O85_ := O85.chg e273 N85_86
          have O4 := O4_
          have O25 := O25_
          have O26 := O26_
          have O27 := O27_
          have O52 := O52_
          have O53 := O53_
          have O54 := O54_
          have O81 := O81_
          have O82 := O82_
          have O83 := O83_
          have O84 := O84_
          have O85 := O85_
          have hB := echg hB e273 L86
          have hS244 := hS244.chgb e273 (Or.inl LB86)
          have O86 := P86
          refine ⟨sameBut_chg hS244, ?_⟩
          exact ⟨r261.1.Number, r261.1.Frames, r261.1.Regs, r261.2, g86_, A266, c267, A268, c269, rfl, H, hB, O86, L86, O84, O85, O25, O26, O27, O52, O53, O54, N25_86, N26_84, N27_85, N52_84, N53_85, N54_86⟩
        refine And.intro ?_ ?_
        · have H := H.2.1
          refine newBlk (fun g87_ w274 L87 P87 e275 => ?_)
          have N4_87 := O4.ne L87
          have N25_87 := O25.ne L87
          have N26_87 := O26.apart_new L87
          have N27_87 := O27.apart_new L87
          have N52_87 := O52.apart_new L87
          have N53_87 := O53.apart_new L87
          have N54_87 := O54.ne L87
          have N81_87 := O81.apart_new L87
          have N82_87 := O82.apart_new L87
          have N83_87 := O83.apart_new L87
          have O4 := O4.ext e275
          have O25 := O25.ext e275
          have O26 := O26.ext e275
          have O27 := O27.ext e275
          have O52 := O52.ext e275
          have O53 := O53.ext e275
          have O54 := O54.ext e275
          have O81 := O81.ext e275
          have O82 := O82.ext e275
          have O83 := O83.ext e275
          have O87 := P87
          have LB87 := Nat.le_trans hS244.size L87
          have L87 := Nat.le_trans hB.size L87
          have hB := ethen hB e275
          have hS244 := hS244.then e275
          refine ⟨sameBut_chg hS244, ?_⟩
          obtain ⟨hp278, H⟩ := H
          obtain ⟨r276, hr277⟩ : ∃ r_, r_ = M.impl_RunWarp r245 r252 x2 := ⟨_, rfl⟩
          have H := H r276 hr277
          refine (impl_RunWarp.con hp278 hr277 O81.row O81.le O82.row O82.le O83.row O83.le).mono ?_
          rintro _ w279 ⟨A281, c282, A283, c284, rfl, P88, P89, e280⟩
          have N88_4 := P88.apart_old O4.lt
          have N88_25 := P88.apart_old O25.lt
          have N26_88 := Own.apart2_new O26 P88 (Nat.le_refl _)
          have N27_88 := Own.apart2_new O27 P88 (Nat.le_refl _)
          have N52_88 := Own.apart2_new O52 P88 (Nat.le_refl _)
          have N53_88 := Own.apart2_new O53 P88 (Nat.le_refl _)
          have N88_54 := P88.apart_old O54.lt
          have N81_88 := Own.apart2_new O81 P88 (Nat.le_refl _)
          have N82_88 := Own.apart2_new O82 P88 (Nat.le_refl _)
          have N83_88 := Own.apart2_new O83 P88 (Nat.le_refl _)
          have N88_87 := P88.apart_old O87.lt
          have N89_4 := P89.apart_old O4.lt
          have N89_25 := P89.apart_old O25.lt
          have N26_89 := Own.apart2_new O26 P89 (Nat.le_refl _)
          have N27_89 := Own.apart2_new O27 P89 (Nat.le_refl _)
          have N52_89 := Own.apart2_new O52 P89 (Nat.le_refl _)
          have N53_89 := Own.apart2_new O53 P89 (Nat.le_refl _)
          have N89_54 := P89.apart_old O54.lt
          have N81_89 := Own.apart2_new O81 P89 (Nat.le_refl _)
          have N82_89 := Own.apart2_new O82 P89 (Nat.le_refl _)
          have N83_89 := Own.apart2_new O83 P89 (Nat.le_refl _)
          have N89_87 := P89.apart_old O87.lt
          have O4 := O4.ext e280
          have O25 := O25.ext e280
          have O26 := O26.ext e280
          have O27 := O27.ext e280
          have O52 := O52.ext e280
          have O53 := O53.ext e280
          have O54 := O54.ext e280
          have O81 := O81.ext e280
          have O82 := O82.ext e280
          have O83 := O83.ext e280
          have O87 := O87.ext e280
          have LB88 := (P88.mono hS244.size).low
          have LB89 := (P89.mono hS244.size).low
          have O88 := P88.mono hB.size
          have O89 := P89.mono hB.size
          have hB := ethen hB e280
          have hS244 := hS244.then e280
          refine ⟨(.agg #[(.int .i64 r276.1.Number), (.slice A281 r276.1.Frames.length c282), (.slice A283 r276.1.Regs.length c284)]), ?_⟩
          refine ⟨r276.1.Number, trivial, ?_⟩
          refine ⟨A281, r276.1.Frames.length, c282, trivial, ?_⟩
          refine ⟨A283, r276.1.Regs.length, c284, trivial, ?_⟩
          refine ⟨rfl, ?_⟩
          refine ⟨(.int .i64 r276.2), ?_⟩
          refine ⟨r276.2, rfl, ?_⟩
          refine ⟨rfl, ?_⟩
          refine ⟨sameBut_chg hS244, ?_⟩
          refine stBlk O87 (o := 0) (cs' := #[(.int .i64 r276.1.Number), (.slice A281 r276.1.Frames.length c282), (.slice A283 r276.1.Regs.length c284)]) rfl rfl (Nat.le_of_ble_eq_true rfl) rfl (fun w285 P87 e286 => ?_)
          have O4_ := O4.chg e286 N4_87
          have O25_ := O25.chg e286 N25_87
          have O26_ := O26.chg e286 N26_87
          have O27_ := O27.chg e286 N27_87
          have O52_ := O52.chg e286 N52_87
          have O53_ := O53.chg e286 N53_87
          have O54_ := O54.chg e286 N54_87
          have O81_ := O81.chg e286 N81_87
          have O82_ := O82.chg e286 N82_87
          have O83_ := O83.chg e286 N83_87
          have O88_ := O88.chg e286 N88_87
          have O89_ := O89.chg e286 N89_87
          have O4 := O4_
          have O25 := O25_
          have O26 := O26_
          have O27 := O27_
          have O52 := O52_
          have O53 := O53_
          have O54 := O54_
          have O81 := O81_
          have O82 := O82_
          have O83 := O83_
          have O88 := O88_
          have O89 := O89_
          have hB := echg hB e286 L87
          have hS244 := hS244.chgb e286 (Or.inl LB87)
          have O87 := P87
          refine ⟨sameBut_chg hS244, ?_⟩
          exact ⟨r276.1.Number, r276.1.Frames, r276.1.Regs, r276.2, g87_, A281, c282, A283, c284, rfl, H, hB, O87, L87, O88, O89, O25, O26, O27, O52, O53, O54, N25_87, N26_88, N27_89, N52_88, N53_89, N54_87⟩
        exact trivial
      refine And.intro ?_ ?_
      · have H := H.2.1
        refine newBlk (fun g90_ w287 L90 P90 e288 => ?_)
        have N4_90 := O4.ne L90
        have N25_90 := O25.ne L90
        have N26_90 := O26.apart_new L90
        have N27_90 := O27.apart_new L90
        have N52_90 := O52.apart_new L90
        have N53_90 := O53.apart_new L90
        have N54_90 := O54.ne L90
        have N81_90 := O81.apart_new L90
        have O4 := O4.ext e288
        have O25 := O25.ext e288
        have O26 := O26.ext e288
        have O27 := O27.ext e288
        have O52 := O52.ext e288
        have O53 := O53.ext e288
        have O54 := O54.ext e288
        have O81 := O81.ext e288
        have O90 := P90
        have LB90 := Nat.le_trans hS244.size L90
        have L90 := Nat.le_trans hB.size L90
        have hB := ethen hB e288
        have hS244 := hS244.then e288
        refine ⟨sameBut_chg hS244, ?_⟩
        obtain ⟨hp291, H⟩ := H
        obtain ⟨r289, hr290⟩ : ∃ r_, r_ = M.laws_toWarp s1 := ⟨_, rfl⟩
        have H := H r289 hr290
        refine (laws_toWarp.con hp291 hr290 (R1_1.ext hB) hc1_1 (R1_2.ext hB) hc1_2).mono ?_
        rintro _ w292 ⟨A294, c295, A296, c297, rfl, P91, P92, e293⟩
        have N91_4 := P91.apart_old O4.lt
        have N91_25 := P91.apart_old O25.lt
        have N26_91 := Own.apart2_new O26 P91 (Nat.le_refl _)
        have N27_91 := Own.apart2_new O27 P91 (Nat.le_refl _)
        have N52_91 := Own.apart2_new O52 P91 (Nat.le_refl _)
        have N53_91 := Own.apart2_new O53 P91 (Nat.le_refl _)
        have N91_54 := P91.apart_old O54.lt
        have N81_91 := Own.apart2_new O81 P91 (Nat.le_refl _)
        have N91_90 := P91.apart_old O90.lt
        have N92_4 := P92.apart_old O4.lt
        have N92_25 := P92.apart_old O25.lt
        have N26_92 := Own.apart2_new O26 P92 (Nat.le_refl _)
        have N27_92 := Own.apart2_new O27 P92 (Nat.le_refl _)
        have N52_92 := Own.apart2_new O52 P92 (Nat.le_refl _)
        have N53_92 := Own.apart2_new O53 P92 (Nat.le_refl _)
        have N92_54 := P92.apart_old O54.lt
        have N81_92 := Own.apart2_new O81 P92 (Nat.le_refl _)
        have N92_90 := P92.apart_old O90.lt
        have O4 := O4.ext e293
        have O25 := O25.ext e293
        have O26 := O26.ext e293
        have O27 := O27.ext e293
        have O52 := O52.ext e293
        have O53 := O53.ext e293
        have O54 := O54.ext e293
        have O81 := O81.ext e293
        have O90 := O90.ext e293
        have LB91 := (P91.mono hS244.size).low
        have LB92 := (P92.mono hS244.size).low
        have O91 := P91.mono hB.size
        have O92 := P92.mono hB.size
        have hB := ethen hB e293
        have hS244 := hS244.then e293
        refine ⟨r289.Number, trivial, ?_⟩
        refine ⟨A294, r289.Frames.length, c295, trivial, ?_⟩
        refine ⟨A296, r289.Regs.length, c297, trivial, ?_⟩
        refine ⟨rfl, ?_⟩
        refine ⟨sameBut_chg hS244, ?_⟩
        obtain ⟨hp300, H⟩ := H
        obtain ⟨r298, hr299⟩ : ∃ r_, r_ = M.impl_RunWarp r245 r289 x2 := ⟨_, rfl⟩
        have H := H r298 hr299
        refine (impl_RunWarp.con hp300 hr299 O81.row O81.le O91.row O91.le O92.row O92.le).mono ?_
        rintro _ w301 ⟨A303, c304, A305, c306, rfl, P93, P94, e302⟩
        have N93_4 := P93.apart_old O4.lt
        have N93_25 := P93.apart_old O25.lt
        have N26_93 := Own.apart2_new O26 P93 (Nat.le_refl _)
        have N27_93 := Own.apart2_new O27 P93 (Nat.le_refl _)
        have N52_93 := Own.apart2_new O52 P93 (Nat.le_refl _)
        have N53_93 := Own.apart2_new O53 P93 (Nat.le_refl _)
        have N93_54 := P93.apart_old O54.lt
        have N81_93 := Own.apart2_new O81 P93 (Nat.le_refl _)
        have N93_90 := P93.apart_old O90.lt
        have N91_93 := Own.apart2_new O91 P93 (Nat.le_refl _)
        have N92_93 := Own.apart2_new O92 P93 (Nat.le_refl _)
        have N94_4 := P94.apart_old O4.lt
        have N94_25 := P94.apart_old O25.lt
        have N26_94 := Own.apart2_new O26 P94 (Nat.le_refl _)
        have N27_94 := Own.apart2_new O27 P94 (Nat.le_refl _)
        have N52_94 := Own.apart2_new O52 P94 (Nat.le_refl _)
        have N53_94 := Own.apart2_new O53 P94 (Nat.le_refl _)
        have N94_54 := P94.apart_old O54.lt
        have N81_94 := Own.apart2_new O81 P94 (Nat.le_refl _)
        have N94_90 := P94.apart_old O90.lt
        have N91_94 := Own.apart2_new O91 P94 (Nat.le_refl _)
        have N92_94 := Own.apart2_new O92 P94 (Nat.le_refl _)
        have O4 := O4.ext e302
        have O25 := O25.ext e302
        have O26 := O26.ext e302
        have O27 := O27.ext e302
        have O52 := O52.ext e302
        have O53 := O53.ext e302
        have O54 := O54.ext e302
        have O81 := O81.ext e302
        have O90 := O90.ext e302
        have O91 := O91.ext e302
        have O92 := O92.ext e302
        have LB93 := (P93.mono hS244.size).low
        have LB94 := (P94.mono hS244.size).low
        have O93 := P93.mono hB.size
        have O94 := P94.mono hB.size
        have hB := ethen hB e302
        have hS244 := hS244.then e302
        refine ⟨(.agg #[(.int .i64 r298.1.Number), (.slice A303 r298.1.Frames.length c304), (.slice A305 r298.1.Regs.length c306)]), ?_⟩
        refine ⟨r298.1.Number, trivial, ?_⟩
        refine ⟨A303, r298.1.Frames.length, c304, trivial, ?_⟩
        refine ⟨A305, r298.1.Regs.length, c306, trivial, ?_⟩
        refine ⟨rfl, ?_⟩
        refine ⟨(.int .i64 r298.2), ?_⟩
        refine ⟨r298.2, rfl, ?_⟩
        refine ⟨rfl, ?_⟩
        refine ⟨sameBut_chg hS244, ?_⟩
        refine stBlk O90 (o := 0) (cs' := #[(.int .i64 r298.1.Number), (.slice A303 r298.1.Frames.length c304), (.slice A305 r298.1.Regs.length c306)]) rfl rfl (Nat.le_of_ble_eq_true rfl) rfl (fun w307 P90 e308 => ?_)
        have O4_ := O4.chg e308 N4_90
        have O25_ := O25.chg e308 N25_90
        have O26_ := O26.chg e308 N26_90
        have O27_ := O27.chg e308 N27_90
        have O52_ := O52.chg e308 N52_90
        have O53_ := O53.chg e308 N53_90
        have O54_ := O54.chg e308 N54_90
        have O81_ := O81.chg e308 N81_90
        have O91_ := O91.chg e308 N91_90
        have O92_ := O92.chg e308 N92_90
        have O93_ := O93.chg e308 N93_90
        have O94_ := O94.chg e308 N94_90
        have O4 := O4_
        have O25 := O25_
        have O26 := O26_
        have O27 := O27_
        have O52 := O52_
        have O53 := O53_
        have O54 := O54_
        have O81 := O81_
        have O91 := O91_
        have O92 := O92_
        have O93 := O93_
        have O94 := O94_
        have hB := echg hB e308 L90
        have hS244 := hS244.chgb e308 (Or.inl LB90)
        have O90 := P90
        refine ⟨sameBut_chg hS244, ?_⟩
        exact ⟨r298.1.Number, r298.1.Frames, r298.1.Regs, r298.2, g90_, A303, c304, A305, c306, rfl, H, hB, O90, L90, O93, O94, O25, O26, O27, O52, O53, O54, N25_90, N26_93, N27_94, N52_93, N53_94, N54_90⟩
      exact trivial
    refine And.intro ?_ ?_
    · have H := H.2.1
      have hS244 := Chg.refl (fun _ => False) w231
      have O4 := O4.ext (Ext.drew _)
      have O25 := O25.ext (Ext.drew _)
      have O26 := O26.ext (Ext.drew _)
      have O27 := O27.ext (Ext.drew _)
      have O52 := O52.ext (Ext.drew _)
      have O53 := O53.ext (Ext.drew _)
      have O54 := O54.ext (Ext.drew _)
      have hB := ethen hB (Ext.drew _)
      have hS244 := hS244.then (Ext.drew _)
      refine newBlk (fun g95_ w309 L95 P95 e310 => ?_)
      have N4_95 := O4.ne L95
      have N25_95 := O25.ne L95
      have N26_95 := O26.apart_new L95
      have N27_95 := O27.apart_new L95
      have N52_95 := O52.apart_new L95
      have N53_95 := O53.apart_new L95
      have N54_95 := O54.ne L95
      have O4 := O4.ext e310
      have O25 := O25.ext e310
      have O26 := O26.ext e310
      have O27 := O27.ext e310
      have O52 := O52.ext e310
      have O53 := O53.ext e310
      have O54 := O54.ext e310
      have O95 := P95
      have LB95 := Nat.le_trans hS244.size L95
      have L95 := Nat.le_trans hB.size L95
      have hB := ethen hB e310
      have hS244 := hS244.then e310
      refine ⟨sameBut_chg hS244, ?_⟩
      obtain ⟨hp313, H⟩ := H
      obtain ⟨r311, hr312⟩ : ∃ r_, r_ = M.laws_toInsS xs0 := ⟨_, rfl⟩
      have H := H r311 hr312
      refine (laws_toInsS.con hp313 hr312 (R0.ext hB) hc0).mono ?_
      rintro _ w314 ⟨A316, c317, rfl, P96, e315⟩
      have N96_4 := P96.apart_old O4.lt
      have N96_25 := P96.apart_old O25.lt
      have N26_96 := Own.apart2_new O26 P96 (Nat.le_refl _)
      have N27_96 := Own.apart2_new O27 P96 (Nat.le_refl _)
      have N52_96 := Own.apart2_new O52 P96 (Nat.le_refl _)
      have N53_96 := Own.apart2_new O53 P96 (Nat.le_refl _)
      have N96_54 := P96.apart_old O54.lt
      have N96_95 := P96.apart_old O95.lt
      have O4 := O4.ext e315
      have O25 := O25.ext e315
      have O26 := O26.ext e315
      have O27 := O27.ext e315
      have O52 := O52.ext e315
      have O53 := O53.ext e315
      have O54 := O54.ext e315
      have O95 := O95.ext e315
      have LB96 := (P96.mono hS244.size).low
      have O96 := P96.mono hB.size
      have hB := ethen hB e315
      have hS244 := hS244.then e315
      refine ⟨A316, r311.length, c317, rfl, ?_⟩
      refine ⟨sameBut_chg hS244, ?_⟩
      obtain ⟨hp320, H⟩ := H
      obtain ⟨r318, hr319⟩ : ∃ r_, r_ = M.laws_toWarp s1 := ⟨_, rfl⟩
      have H := H r318 hr319
      refine (laws_toWarp.con hp320 hr319 (R1_1.ext hB) hc1_1 (R1_2.ext hB) hc1_2).mono ?_
      rintro _ w321 ⟨A323, c324, A325, c326, rfl, P97, P98, e322⟩
      have N97_4 := P97.apart_old O4.lt
      have N97_25 := P97.apart_old O25.lt
      have N26_97 := Own.apart2_new O26 P97 (Nat.le_refl _)
      have N27_97 := Own.apart2_new O27 P97 (Nat.le_refl _)
      have N52_97 := Own.apart2_new O52 P97 (Nat.le_refl _)
      have N53_97 := Own.apart2_new O53 P97 (Nat.le_refl _)
      have N97_54 := P97.apart_old O54.lt
      have N97_95 := P97.apart_old O95.lt
      have N96_97 := Own.apart2_new O96 P97 (Nat.le_refl _)
      have N98_4 := P98.apart_old O4.lt
      have N98_25 := P98.apart_old O25.lt
      have N26_98 := Own.apart2_new O26 P98 (Nat.le_refl _)
      have N27_98 := Own.apart2_new O27 P98 (Nat.le_refl _)
      have N52_98 := Own.apart2_new O52 P98 (Nat.le_refl _)
      have N53_98 := Own.apart2_new O53 P98 (Nat.le_refl _)
      have N98_54 := P98.apart_old O54.lt
      have N98_95 := P98.apart_old O95.lt
      have N96_98 := Own.apart2_new O96 P98 (Nat.le_refl _)
      have O4 := O4.ext e322
      have O25 := O25.ext e322
      have O26 := O26.ext e322
      have O27 := O27.ext e322
      have O52 := O52.ext e322
      have O53 := O53.ext e322
      have O54 := O54.ext e322
      have O95 := O95.ext e322
      have O96 := O96.ext e322
      have LB97 := (P97.mono hS244.size).low
      have LB98 := (P98.mono hS244.size).low
      have O97 := P97.mono hB.size
      have O98 := P98.mono hB.size
      have hB := ethen hB e322
      have hS244 := hS244.then e322
      refine ⟨r318.Number, trivial, ?_⟩
      refine ⟨A323, r318.Frames.length, c324, trivial, ?_⟩
      refine ⟨A325, r318.Regs.length, c326, trivial, ?_⟩
      refine ⟨rfl, ?_⟩
      refine ⟨sameBut_chg hS244, ?_⟩
      obtain ⟨hp329, H⟩ := H
      obtain ⟨r327, hr328⟩ : ∃ r_, r_ = M.impl_RunWarp r311 r318 x2 := ⟨_, rfl⟩
      have H := H r327 hr328
      refine (impl_RunWarp.con hp329 hr328 O96.row O96.le O97.row O97.le O98.row O98.le).mono ?_
      rintro _ w330 ⟨A332, c333, A334, c335, rfl, P99, P100, e331⟩
      have N99_4 := P99.apart_old O4.lt
      have N99_25 := P99.apart_old O25.lt
      have N26_99 := Own.apart2_new O26 P99 (Nat.le_refl _)
      have N27_99 := Own.apart2_new O27 P99 (Nat.le_refl _)
      have N52_99 := Own.apart2_new O52 P99 (Nat.le_refl _)
      have N53_99 := Own.apart2_new O53 P99 (Nat.le_refl _)
      have N99_54 := P99.apart_old O54.lt
      have N99_95 := P99.apart_old O95.lt
      have N96_99 := Own.apart2_new O96 P99 (Nat.le_refl _)
      have N97_99 := Own.apart2_new O97 P99 (Nat.le_refl _)
      have N98_99 := Own.apart2_new O98 P99 (Nat.le_refl _)
      have N100_4 := P100.apart_old O4.lt
      have N100_25 := P100.apart_old O25.lt
      have N26_100 := Own.apart2_new O26 P100 (Nat.le_refl _)
      have N27_100 := Own.apart2_new O27 P100 (Nat.le_refl _)
      have N52_100 := Own.apart2_new O52 P100 (Nat.le_refl _)
      have N53_100 := Own.apart2_new O53 P100 (Nat.le_refl _)
      have N100_54 := P100.apart_old O54.lt
      have N100_95 := P100.apart_old O95.lt
      have N96_100 := Own.apart2_new O96 P100 (Nat.le_refl _)
      have N97_100 := Own.apart2_new O97 P100 (Nat.le_refl _)
      have N98_100 := Own.apart2_new O98 P100 (Nat.le_refl _)
      have O4 := O4.ext e331
      have O25 := O25.ext e331
      have O26 := O26.ext e331
      have O27 := O27.ext e331
      have O52 := O52.ext e331
      have O53 := O53.ext e331
      have O54 := O54.ext e331
      have O95 := O95.ext e331
      have O96 := O96.ext e331
      have O97 := O97.ext e331
      have O98 := O98.ext e331
      have LB99 := (P99.mono hS244.size).low
      have LB100 := (P100.mono hS244.size).low
      have O99 := P99.mono hB.size
      have O100 := P100.mono hB.size
      have hB := ethen hB e331
      have hS244 := hS244.then e331
      refine ⟨(.agg #[(.int .i64 r327.1.Number), (.slice A332 r327.1.Frames.length c333), (.slice A334 r327.1.Regs.length c335)]), ?_⟩
      refine ⟨r327.1.Number, trivial, ?_⟩
      refine ⟨A332, r327.1.Frames.length, c333, trivial, ?_⟩
      refine ⟨A334, r327.1.Regs.length, c335, trivial, ?_⟩
      refine ⟨rfl, ?_⟩
      refine ⟨(.int .i64 r327.2), ?_⟩
      refine ⟨r327.2, rfl, ?_⟩
      refine ⟨rfl, ?_⟩
      refine ⟨sameBut_chg hS244, ?_⟩
      refine stBlk O95 (o := 0) (cs' := #[(.int .i64 r327.1.Number), (.slice A332 r327.1.Frames.length c333), (.slice A334 r327.1.Regs.length c335)]) rfl rfl (Nat.le_of_ble_eq_true rfl) rfl (fun w336 P95 e337 => ?_)
      have O4_ := O4.chg e337 N4_95
      have O25_ := O25.chg e337 N25_95
      have O26_ := O26.chg e337 N26_95
      have O27_ := O27.chg e337 N27_95
      have O52_ := O52.chg e337 N52_95
      have O53_ := O53.chg e337 N53_95
      have O54_ := O54.chg e337 N54_95
      have O96_ := O96.chg e337 N96_95
      have O97_ := O97.chg e337 N97_95
      have O98_ := O98.chg e337 N98_95
      have O99_ := O99.chg e337 N99_95
      have O100_ := O100.chg e337 N100_95
      have O4 := O4_
      have O25 := O25_
      have O26 := O26_
      have O27 := O27_
      have O52 := O52_
      have O53 := O53_
      have O54 := O54_
      have O96 := O96_
      have O97 := O97_
      have O98 := O98_
      have O99 := O99_
      have O100 := O100_
      have hB := echg hB e337 L95
      have hS244 := hS244.chgb e337 (Or.inl LB95)
      have O95 := P95
      refine ⟨sameBut_chg hS244, ?_⟩
      exact ⟨r327.1.Number, r327.1.Frames, r327.1.Regs, r327.2, g95_, A332, c333, A334, c335, rfl, H, hB, O95, L95, O99, O100, O25, O26, O27, O52, O53, O54, N25_95, N26_99, N27_100, N52_99, N53_100, N54_95⟩
    exact trivial
  rintro _ w242 ⟨i233, xs234, xs237, i240, g78_, A235, c236, A238, c239, rfl, H, hB, O78, L78, O79, O80, O25, O26, O27, O52, O53, O54, N25_78, N26_79, N27_80, N52_79, N53_80, N54_78⟩
  have H := hKK353 _ H
  try dsimp only at H ⊢
  refine ⟨_, (O78.at 0 rfl rfl), ?_⟩
  refine ⟨_, _, _, (O78.at 1 rfl rfl), ?_⟩
  refine ⟨_, _, _, (O78.at 2 rfl rfl), ?_⟩
  refine ⟨_, (O25.at 0 rfl rfl), ?_⟩
  refine ⟨_, _, _, (O25.at 1 rfl rfl), ?_⟩
  refine ⟨_, _, _, (O25.at 2 rfl rfl), ?_⟩
  obtain ⟨hp340, H⟩ := H
  obtain ⟨r338, hr339⟩ : ∃ r_, r_ = M.laws_eqWarp (⟨i233, xs234, xs237⟩ : D.Warp) (⟨i33, xs34, xs37⟩ : D.Warp) := ⟨_, rfl⟩
  have H := H r338 hr339
  refine (laws_eqWarp.con hp340 hr339 O79.row O79.le O80.row O80.le O26.row O26.le O27.row O27.le).mono ?_
  rintro _ w341 ⟨rfl, e342⟩
  have O25 := O25.ext e342
  have O26 := O26.ext e342
  have O27 := O27.ext e342
  have O52 := O52.ext e342
  have O53 := O53.ext e342
  have O54 := O54.ext e342
  have O78 := O78.ext e342
  have O79 := O79.ext e342
  have O80 := O80.ext e342
  have hB := ethen hB e342
  refine ⟨r338, rfl, ?_⟩
  refine bcase_mk (fun hc351 => ?_) (fun hc351 => ?_)
  · have H := (bcase_iff.1 H).1 hc351
    obtain rfl := hr.trans H.symm
    exact ⟨rfl, hB⟩
  have H := (bcase_iff.1 H).2 hc351
  refine bcase_mk (fun hc350 => ?_) (fun hc350 => ?_)
  · have H := (bcase_iff.1 H).1 hc350
    obtain rfl := hr.trans H.symm
    exact ⟨rfl, hB⟩
  have H := (bcase_iff.1 H).2 hc350
  refine ⟨_, (O54.at 0 rfl rfl), ?_⟩
  refine ⟨_, _, _, (O54.at 1 rfl rfl), ?_⟩
  refine ⟨_, _, _, (O54.at 2 rfl rfl), ?_⟩
  obtain ⟨hp345, H⟩ := H
  obtain ⟨r343, hr344⟩ : ∃ r_, r_ = M.laws_heldWarp (⟨r158.1.Number, r221.2.1, r221.2.2⟩ : D.Warp) 1 := ⟨_, rfl⟩
  have H := H r343 hr344
  refine (cllArgs (by first | (simp only [List.length_set, hl226, hl227]; done) | (simp; done)) (laws_heldWarp.con hp345 hr344 O52.row O52.le O53.row O53.le)).mono ?_
  rintro _ w346 ⟨rfl, e347⟩
  have O52 := O52.ext e347
  have O53 := O53.ext e347
  have O54 := O54.ext e347
  have hB := ethen hB e347
  refine ⟨r343, rfl, ?_⟩
  refine bcase_mk (fun hc349 => ?_) (fun hc349 => ?_)
  · have H := (bcase_iff.1 H).1 hc349
    obtain rfl := hr.trans H.symm
    exact ⟨rfl, hB⟩
  have H := (bcase_iff.1 H).2 hc349
  refine bcase_mk (fun hc348 => ?_) (fun hc348 => ?_)
  · have H := (bcase_iff.1 H).1 hc348
    obtain rfl := hr.trans H.symm
    exact ⟨rfl, hB⟩
  have H := (bcase_iff.1 H).2 hc348
  obtain rfl := hr.trans H.symm
  exact ⟨rfl, hB⟩
end Go.V
