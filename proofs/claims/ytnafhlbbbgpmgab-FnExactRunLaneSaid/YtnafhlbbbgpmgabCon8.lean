import Derived.Test.YtnafhlbbbgpmgabMath8
import Derived.Test.YtnafhlbbbgpmgabSeat
import Derived.Test.YtnafhlbbbgpmgabCon7
namespace Go.V
open Go.Proofs
set_option linter.unusedVariables false
set_option linter.unusedSimpArgs false
set_option maxRecDepth 100000

def laws_FnExactRunLane.vc (A0 : Option Addr) (n0 : Nat) (c0 : Nat) (x1_0 : Int) (x1_1 : Int) (A1_2 : Option Addr) (n1_2 : Nat) (c1_2 : Nat) (x2 : Int) (w : World) (K : Value → World → Prop) : Prop :=
  newK w (.cells #[(.int .i64 x1_0), (.int .i64 x1_1), (.slice A1_2 n1_2 c1_2)] 47) fun g21 w22 => Cll Try.prog 13 #[(.slice A0 n0 c0), (.int .i64 1048576)] w22 fun v23 w24 => (∃ (n25 : Int), v23 = (.int .i64 n25) ∧ bcase (decide (n25 < 0)) (K (.bool true) w24) (∃ (n26 : Int), w24.cell? ((⟨g21, 0, none⟩ : Addr).add 0) = some (.int .i64 n26) ∧ ∃ (n27 : Int), w24.cell? ((⟨g21, 0, none⟩ : Addr).add 1) = some (.int .i64 n27) ∧ ∃ (A28 : Option Addr) (n29 : Nat) (c30 : Nat), w24.cell? ((⟨g21, 0, none⟩ : Addr).add 2) = some (.slice A28 n29 c30) ∧ Cll Try.prog 32 #[(.agg #[(.int .i64 n26), (.int .i64 n27), (.slice A28 n29 c30)]), (.int .i64 n25)] w24 fun v31 w32 => (∃ (n33 : Int), v31 = (.int .i64 n33) ∧ bcase (decide (n33 < 0)) (K (.bool true) w32) (JoinT (σ := Addr × Int × Unit) (fun J34 => (∃ M35 : Nat → Prop, ∃ (n36 : Int), (¬ M35 ((⟨g21, 0, none⟩ : Addr)).block ∧ w32.cell? ((⟨g21, 0, none⟩ : Addr).add 0) = some (.int .i64 n36)) ∧ ∃ (n37 : Int), (¬ M35 ((⟨g21, 0, none⟩ : Addr)).block ∧ w32.cell? ((⟨g21, 0, none⟩ : Addr).add 1) = some (.int .i64 n37)) ∧ ∃ (A38 : Option Addr) (n39 : Nat) (c40 : Nat), (¬ M35 ((⟨g21, 0, none⟩ : Addr)).block ∧ w32.cell? ((⟨g21, 0, none⟩ : Addr).add 2) = some (.slice A38 n39 c40)) ∧ ((Cll Try.prog 15 #[(.slice A0 n0 c0)] w32.drew fun v41 w42 => (∃ (A43 : Option Addr) (n44 : Nat) (c45 : Nat), v41 = (.slice A43 n44 c45) ∧ SameBut M35 w32 w42 ∧ ((Cll Try.prog 34 #[(.agg #[(.int .i64 n36), (.int .i64 n37), (.slice A38 n39 c40)])] w42 fun v46 w47 => (∃ (n48 : Int), True ∧ ∃ (n49 : Int), True ∧ ∃ (A50 : Option Addr) (n51 : Nat) (c52 : Nat), True ∧ v46 = (.agg #[(.int .i64 n48), (.int .i64 n49), (.slice A50 n51 c52)]) ∧ SameBut M35 w32 w47 ∧ ((Cll Try.prog 33 #[(.slice A43 n44 c45), (.agg #[(.int .i64 n48), (.int .i64 n49), (.slice A50 n51 c52)]), (.int .i64 x2)] w47 fun v53 w54 => (∃ u55 : Value, (∃ (n56 : Int), True ∧ ∃ (n57 : Int), True ∧ ∃ (A58 : Option Addr) (n59 : Nat) (c60 : Nat), True ∧ u55 = (.agg #[(.int .i64 n56), (.int .i64 n57), (.slice A58 n59 c60)]) ∧ ∃ u61 : Value, (∃ (n62 : Int), u61 = (.int .i64 n62) ∧ v53 = (.tuple #[(.agg #[(.int .i64 n56), (.int .i64 n57), (.slice A58 n59 c60)]), (.int .i64 n62)]) ∧ SameBut M35 w32 w54 ∧ newK w54 (.cells #[(.int .i64 0), (.int .i64 0), (.slice none 0 0)] 49) fun g63 w64 => SameBut M35 w32 w64 ∧ stCells (⟨g63, 0, none⟩ : Addr) [(.int .i64 n56), (.int .i64 n57), (.slice A58 n59 c60)] 0 w64 fun w65 => SameBut M35 w32 w65 ∧ J34 ((⟨g63, 0, none⟩ : Addr), n62, ()) w65)))) ∧ (newK w47 (.cells #[(.int .i64 0), (.int .i64 0), (.slice none 0 0)] 49) fun g66 w67 => SameBut M35 w32 w67 ∧ Cll Try.prog 33 #[(.slice A43 n44 c45), (.agg #[(.int .i64 n48), (.int .i64 n49), (.slice A50 n51 c52)]), (.int .i64 x2)] w67 fun v68 w69 => (∃ u70 : Value, (∃ (n71 : Int), True ∧ ∃ (n72 : Int), True ∧ ∃ (A73 : Option Addr) (n74 : Nat) (c75 : Nat), True ∧ u70 = (.agg #[(.int .i64 n71), (.int .i64 n72), (.slice A73 n74 c75)]) ∧ ∃ u76 : Value, (∃ (n77 : Int), u76 = (.int .i64 n77) ∧ v68 = (.tuple #[(.agg #[(.int .i64 n71), (.int .i64 n72), (.slice A73 n74 c75)]), (.int .i64 n77)]) ∧ SameBut M35 w32 w69 ∧ stCells (⟨g66, 0, none⟩ : Addr) [(.int .i64 n71), (.int .i64 n72), (.slice A73 n74 c75)] 0 w69 fun w78 => SameBut M35 w32 w78 ∧ J34 ((⟨g66, 0, none⟩ : Addr), n77, ()) w78)))) ∧ True))) ∧ (newK w42 (.cells #[(.int .i64 0), (.int .i64 0), (.slice none 0 0)] 49) fun g79 w80 => SameBut M35 w32 w80 ∧ Cll Try.prog 34 #[(.agg #[(.int .i64 n36), (.int .i64 n37), (.slice A38 n39 c40)])] w80 fun v81 w82 => (∃ (n83 : Int), True ∧ ∃ (n84 : Int), True ∧ ∃ (A85 : Option Addr) (n86 : Nat) (c87 : Nat), True ∧ v81 = (.agg #[(.int .i64 n83), (.int .i64 n84), (.slice A85 n86 c87)]) ∧ SameBut M35 w32 w82 ∧ Cll Try.prog 33 #[(.slice A43 n44 c45), (.agg #[(.int .i64 n83), (.int .i64 n84), (.slice A85 n86 c87)]), (.int .i64 x2)] w82 fun v88 w89 => (∃ u90 : Value, (∃ (n91 : Int), True ∧ ∃ (n92 : Int), True ∧ ∃ (A93 : Option Addr) (n94 : Nat) (c95 : Nat), True ∧ u90 = (.agg #[(.int .i64 n91), (.int .i64 n92), (.slice A93 n94 c95)]) ∧ ∃ u96 : Value, (∃ (n97 : Int), u96 = (.int .i64 n97) ∧ v88 = (.tuple #[(.agg #[(.int .i64 n91), (.int .i64 n92), (.slice A93 n94 c95)]), (.int .i64 n97)]) ∧ SameBut M35 w32 w89 ∧ stCells (⟨g79, 0, none⟩ : Addr) [(.int .i64 n91), (.int .i64 n92), (.slice A93 n94 c95)] 0 w89 fun w98 => SameBut M35 w32 w98 ∧ J34 ((⟨g79, 0, none⟩ : Addr), n97, ()) w98))))) ∧ True))) ∧ (newK w32.drew (.cells #[(.int .i64 0), (.int .i64 0), (.slice none 0 0)] 49) fun g99 w100 => SameBut M35 w32 w100 ∧ Cll Try.prog 15 #[(.slice A0 n0 c0)] w100 fun v101 w102 => (∃ (A103 : Option Addr) (n104 : Nat) (c105 : Nat), v101 = (.slice A103 n104 c105) ∧ SameBut M35 w32 w102 ∧ Cll Try.prog 34 #[(.agg #[(.int .i64 n36), (.int .i64 n37), (.slice A38 n39 c40)])] w102 fun v106 w107 => (∃ (n108 : Int), True ∧ ∃ (n109 : Int), True ∧ ∃ (A110 : Option Addr) (n111 : Nat) (c112 : Nat), True ∧ v106 = (.agg #[(.int .i64 n108), (.int .i64 n109), (.slice A110 n111 c112)]) ∧ SameBut M35 w32 w107 ∧ Cll Try.prog 33 #[(.slice A103 n104 c105), (.agg #[(.int .i64 n108), (.int .i64 n109), (.slice A110 n111 c112)]), (.int .i64 x2)] w107 fun v113 w114 => (∃ u115 : Value, (∃ (n116 : Int), True ∧ ∃ (n117 : Int), True ∧ ∃ (A118 : Option Addr) (n119 : Nat) (c120 : Nat), True ∧ u115 = (.agg #[(.int .i64 n116), (.int .i64 n117), (.slice A118 n119 c120)]) ∧ ∃ u121 : Value, (∃ (n122 : Int), u121 = (.int .i64 n122) ∧ v113 = (.tuple #[(.agg #[(.int .i64 n116), (.int .i64 n117), (.slice A118 n119 c120)]), (.int .i64 n122)]) ∧ SameBut M35 w32 w114 ∧ stCells (⟨g99, 0, none⟩ : Addr) [(.int .i64 n116), (.int .i64 n117), (.slice A118 n119 c120)] 0 w114 fun w123 => SameBut M35 w32 w123 ∧ J34 ((⟨g99, 0, none⟩ : Addr), n122, ()) w123)))))) ∧ True))) fun z124 w125 => Cll Try.prog 15 #[(.slice A0 n0 c0)] w125 fun v126 w127 => (∃ (A128 : Option Addr) (n129 : Nat) (c130 : Nat), v126 = (.slice A128 n129 c130) ∧ ∃ (n131 : Int), w127.cell? ((⟨g21, 0, none⟩ : Addr).add 0) = some (.int .i64 n131) ∧ ∃ (n132 : Int), w127.cell? ((⟨g21, 0, none⟩ : Addr).add 1) = some (.int .i64 n132) ∧ ∃ (A133 : Option Addr) (n134 : Nat) (c135 : Nat), w127.cell? ((⟨g21, 0, none⟩ : Addr).add 2) = some (.slice A133 n134 c135) ∧ Cll Try.prog 34 #[(.agg #[(.int .i64 n131), (.int .i64 n132), (.slice A133 n134 c135)])] w127 fun v136 w137 => (∃ (n138 : Int), True ∧ ∃ (n139 : Int), True ∧ ∃ (A140 : Option Addr) (n141 : Nat) (c142 : Nat), True ∧ v136 = (.agg #[(.int .i64 n138), (.int .i64 n139), (.slice A140 n141 c142)]) ∧ newK w137 (.cells #[(.int .i64 0), (.int .i64 0), (.slice none 0 0)] 49) fun g143 w144 => stCells (⟨g143, 0, none⟩ : Addr) [(.int .i64 n138), (.int .i64 n139), (.slice A140 n141 c142)] 0 w144 fun w145 => ∃ (n146 : Int), w145.cell? ((⟨g143, 0, none⟩ : Addr).add 0) = some (.int .i64 n146) ∧ ∃ (n147 : Int), w145.cell? ((⟨g143, 0, none⟩ : Addr).add 1) = some (.int .i64 n147) ∧ ∃ (A148 : Option Addr) (n149 : Nat) (c150 : Nat), w145.cell? ((⟨g143, 0, none⟩ : Addr).add 2) = some (.slice A148 n149 c150) ∧ Cll Try.prog 35 #[(.slice A128 n129 c130), (.agg #[(.int .i64 n146), (.int .i64 n147), (.slice A148 n149 c150)]), (.int .i64 x2)] w145 fun v151 w152 => (∃ u153 : Value, (∃ (n154 : Int), True ∧ ∃ (n155 : Int), True ∧ ∃ (A156 : Option Addr) (n157 : Nat) (c158 : Nat), True ∧ u153 = (.agg #[(.int .i64 n154), (.int .i64 n155), (.slice A156 n157 c158)]) ∧ ∃ u159 : Value, (∃ (n160 : Int), u159 = (.int .i64 n160) ∧ v151 = (.tuple #[(.agg #[(.int .i64 n154), (.int .i64 n155), (.slice A156 n157 c158)]), (.int .i64 n160)]) ∧ newK w152 (.cells #[(.int .i64 0), (.int .i64 0), (.slice none 0 0)] 49) fun g161 w162 => stCells (⟨g161, 0, none⟩ : Addr) [(.int .i64 n154), (.int .i64 n155), (.slice A156 n157 c158)] 0 w162 fun w163 => ∃ (n165 : Int), w163.cell? ((⟨g161, 0, none⟩ : Addr).add 0) = some (.int .i64 n165) ∧ ∃ (n166 : Int), w163.cell? ((⟨g161, 0, none⟩ : Addr).add 1) = some (.int .i64 n166) ∧ ∃ (A167 : Option Addr) (n168 : Nat) (c169 : Nat), w163.cell? ((⟨g161, 0, none⟩ : Addr).add 2) = some (.slice A167 n168 c169) ∧ ∃ (n170 : Int), w163.cell? (z124.1.add 0) = some (.int .i64 n170) ∧ ∃ (n171 : Int), w163.cell? (z124.1.add 1) = some (.int .i64 n171) ∧ ∃ (A172 : Option Addr) (n173 : Nat) (c174 : Nat), w163.cell? (z124.1.add 2) = some (.slice A172 n173 c174) ∧ Cll Try.prog 36 #[(.agg #[(.int .i64 n165), (.int .i64 n166), (.slice A167 n168 c169)]), (.agg #[(.int .i64 n170), (.int .i64 n171), (.slice A172 n173 c174)])] w163 fun v175 w176 => (∃ (b177 : Bool), v175 = (.bool b177) ∧ bcase (!b177) (K (.bool false) w176) (bcase (n160 != z124.2.1) (K (.bool false) w176) (Cll Try.prog 15 #[(.slice A0 n0 c0)] w176 fun v178 w179 => (∃ (A180 : Option Addr) (n181 : Nat) (c182 : Nat), v178 = (.slice A180 n181 c182) ∧ Cll Try.prog 18 #[(.slice A128 n129 c130), (.slice A180 n181 c182)] w179 fun v183 w184 => (∃ (b185 : Bool), v183 = (.bool b185) ∧ bcase (!b185) (K (.bool false) w184) ((∃ M186 : Nat → Prop, ∃ (n187 : Int), (¬ M186 ((⟨g143, 0, none⟩ : Addr)).block ∧ w184.cell? ((⟨g143, 0, none⟩ : Addr).add 0) = some (.int .i64 n187)) ∧ ∃ (n188 : Int), (¬ M186 ((⟨g143, 0, none⟩ : Addr)).block ∧ w184.cell? ((⟨g143, 0, none⟩ : Addr).add 1) = some (.int .i64 n188)) ∧ ∃ (A189 : Option Addr) (n190 : Nat) (c191 : Nat), (¬ M186 ((⟨g143, 0, none⟩ : Addr)).block ∧ w184.cell? ((⟨g143, 0, none⟩ : Addr).add 2) = some (.slice A189 n190 c191)) ∧ ∃ (n192 : Int), (¬ M186 ((⟨g21, 0, none⟩ : Addr)).block ∧ w184.cell? ((⟨g21, 0, none⟩ : Addr).add 0) = some (.int .i64 n192)) ∧ ∃ (n193 : Int), (¬ M186 ((⟨g21, 0, none⟩ : Addr)).block ∧ w184.cell? ((⟨g21, 0, none⟩ : Addr).add 1) = some (.int .i64 n193)) ∧ ∃ (A194 : Option Addr) (n195 : Nat) (c196 : Nat), (¬ M186 ((⟨g21, 0, none⟩ : Addr)).block ∧ w184.cell? ((⟨g21, 0, none⟩ : Addr).add 2) = some (.slice A194 n195 c196)) ∧ Cll Try.prog 34 #[(.agg #[(.int .i64 n192), (.int .i64 n193), (.slice A194 n195 c196)])] w184.drew fun v197 w198 => (∃ (n199 : Int), True ∧ ∃ (n200 : Int), True ∧ ∃ (A201 : Option Addr) (n202 : Nat) (c203 : Nat), True ∧ v197 = (.agg #[(.int .i64 n199), (.int .i64 n200), (.slice A201 n202 c203)]) ∧ SameBut M186 w184 w198 ∧ Cll Try.prog 36 #[(.agg #[(.int .i64 n187), (.int .i64 n188), (.slice A189 n190 c191)]), (.agg #[(.int .i64 n199), (.int .i64 n200), (.slice A201 n202 c203)])] w198 fun v204 w205 => (∃ (b206 : Bool), v204 = (.bool b206) ∧ SameBut M186 w184 w205 ∧ bcase (!b206) (K (.bool false) w205) (Cll Try.prog 19 #[(.slice A128 n129 c130), (.int .i64 1)] w205 fun v207 w208 => (∃ (n209 : Int), v207 = (.int .i64 n209) ∧ ∃ (n210 : Int), w208.cell? ((⟨g143, 0, none⟩ : Addr).add 0) = some (.int .i64 n210) ∧ ∃ (n211 : Int), w208.cell? ((⟨g143, 0, none⟩ : Addr).add 1) = some (.int .i64 n211) ∧ ∃ (A212 : Option Addr) (n213 : Nat) (c214 : Nat), w208.cell? ((⟨g143, 0, none⟩ : Addr).add 2) = some (.slice A212 n213 c214) ∧ Cll Try.prog 37 #[(.agg #[(.int .i64 n210), (.int .i64 n211), (.slice A212 n213 c214)]), (.int .i64 n209)] w208 fun v215 w216 => (∃ (n217 : Int), v215 = (.int .i64 n217) ∧ bcase (decide (n217 < 0)) (K (.bool false) w216) (∃ (n219 : Int), w216.cell? ((⟨g161, 0, none⟩ : Addr).add 0) = some (.int .i64 n219) ∧ ∃ (n220 : Int), w216.cell? ((⟨g161, 0, none⟩ : Addr).add 1) = some (.int .i64 n220) ∧ ∃ (A221 : Option Addr) (n222 : Nat) (c223 : Nat), w216.cell? ((⟨g161, 0, none⟩ : Addr).add 2) = some (.slice A221 n222 c223) ∧ ∃ (n224 : Int), w216.cell? (z124.1.add 0) = some (.int .i64 n224) ∧ ∃ (n225 : Int), w216.cell? (z124.1.add 1) = some (.int .i64 n225) ∧ ∃ (A226 : Option Addr) (n227 : Nat) (c228 : Nat), w216.cell? (z124.1.add 2) = some (.slice A226 n227 c228) ∧ Cll Try.prog 36 #[(.agg #[(.int .i64 n219), (.int .i64 n220), (.slice A221 n222 c223)]), (.agg #[(.int .i64 n224), (.int .i64 n225), (.slice A226 n227 c228)])] w216 fun v229 w230 => (∃ (b231 : Bool), v229 = (.bool b231) ∧ bcase (!b231) (K (.bool false) w230) (bcase (n160 != z124.2.1) (K (.bool false) w230) (∃ (n232 : Int), w230.cell? ((⟨g161, 0, none⟩ : Addr).add 0) = some (.int .i64 n232) ∧ ∃ (n233 : Int), w230.cell? ((⟨g161, 0, none⟩ : Addr).add 1) = some (.int .i64 n233) ∧ ∃ (A234 : Option Addr) (n235 : Nat) (c236 : Nat), w230.cell? ((⟨g161, 0, none⟩ : Addr).add 2) = some (.slice A234 n235 c236) ∧ Cll Try.prog 37 #[(.agg #[(.int .i64 n232), (.int .i64 n233), (.slice A234 n235 c236)]), (.int .i64 1)] w230 fun v237 w238 => (∃ (n239 : Int), v237 = (.int .i64 n239) ∧ ∃ (n240 : Int), w238.cell? ((⟨g161, 0, none⟩ : Addr).add 0) = some (.int .i64 n240) ∧ ∃ (n241 : Int), w238.cell? ((⟨g161, 0, none⟩ : Addr).add 1) = some (.int .i64 n241) ∧ ∃ (A242 : Option Addr) (n243 : Nat) (c244 : Nat), w238.cell? ((⟨g161, 0, none⟩ : Addr).add 2) = some (.slice A242 n243 c244) ∧ Cll Try.prog 38 #[(.agg #[(.int .i64 n240), (.int .i64 n241), (.slice A242 n243 c244)]), (.int .i64 1)] w238 fun v245 w246 => (∃ (n247 : Int), v245 = (.int .i64 n247) ∧ bcase (decide (n247 < 0)) (K (.bool false) w246) (bcase (n247 != n239) (K (.bool false) w246) (JoinT (σ := Addr × Int × Unit) (fun J248 => (∃ M249 : Nat → Prop, ∃ (n250 : Int), (¬ M249 ((⟨g21, 0, none⟩ : Addr)).block ∧ w246.cell? ((⟨g21, 0, none⟩ : Addr).add 0) = some (.int .i64 n250)) ∧ ∃ (n251 : Int), (¬ M249 ((⟨g21, 0, none⟩ : Addr)).block ∧ w246.cell? ((⟨g21, 0, none⟩ : Addr).add 1) = some (.int .i64 n251)) ∧ ∃ (A252 : Option Addr) (n253 : Nat) (c254 : Nat), (¬ M249 ((⟨g21, 0, none⟩ : Addr)).block ∧ w246.cell? ((⟨g21, 0, none⟩ : Addr).add 2) = some (.slice A252 n253 c254)) ∧ ((Cll Try.prog 15 #[(.slice A0 n0 c0)] w246.drew fun v255 w256 => (∃ (A257 : Option Addr) (n258 : Nat) (c259 : Nat), v255 = (.slice A257 n258 c259) ∧ SameBut M249 w246 w256 ∧ ((Cll Try.prog 34 #[(.agg #[(.int .i64 n250), (.int .i64 n251), (.slice A252 n253 c254)])] w256 fun v260 w261 => (∃ (n262 : Int), True ∧ ∃ (n263 : Int), True ∧ ∃ (A264 : Option Addr) (n265 : Nat) (c266 : Nat), True ∧ v260 = (.agg #[(.int .i64 n262), (.int .i64 n263), (.slice A264 n265 c266)]) ∧ SameBut M249 w246 w261 ∧ ((Cll Try.prog 35 #[(.slice A257 n258 c259), (.agg #[(.int .i64 n262), (.int .i64 n263), (.slice A264 n265 c266)]), (.int .i64 x2)] w261 fun v267 w268 => (∃ u269 : Value, (∃ (n270 : Int), True ∧ ∃ (n271 : Int), True ∧ ∃ (A272 : Option Addr) (n273 : Nat) (c274 : Nat), True ∧ u269 = (.agg #[(.int .i64 n270), (.int .i64 n271), (.slice A272 n273 c274)]) ∧ ∃ u275 : Value, (∃ (n276 : Int), u275 = (.int .i64 n276) ∧ v267 = (.tuple #[(.agg #[(.int .i64 n270), (.int .i64 n271), (.slice A272 n273 c274)]), (.int .i64 n276)]) ∧ SameBut M249 w246 w268 ∧ newK w268 (.cells #[(.int .i64 0), (.int .i64 0), (.slice none 0 0)] 49) fun g277 w278 => SameBut M249 w246 w278 ∧ stCells (⟨g277, 0, none⟩ : Addr) [(.int .i64 n270), (.int .i64 n271), (.slice A272 n273 c274)] 0 w278 fun w279 => SameBut M249 w246 w279 ∧ J248 ((⟨g277, 0, none⟩ : Addr), n276, ()) w279)))) ∧ (newK w261 (.cells #[(.int .i64 0), (.int .i64 0), (.slice none 0 0)] 49) fun g280 w281 => SameBut M249 w246 w281 ∧ Cll Try.prog 35 #[(.slice A257 n258 c259), (.agg #[(.int .i64 n262), (.int .i64 n263), (.slice A264 n265 c266)]), (.int .i64 x2)] w281 fun v282 w283 => (∃ u284 : Value, (∃ (n285 : Int), True ∧ ∃ (n286 : Int), True ∧ ∃ (A287 : Option Addr) (n288 : Nat) (c289 : Nat), True ∧ u284 = (.agg #[(.int .i64 n285), (.int .i64 n286), (.slice A287 n288 c289)]) ∧ ∃ u290 : Value, (∃ (n291 : Int), u290 = (.int .i64 n291) ∧ v282 = (.tuple #[(.agg #[(.int .i64 n285), (.int .i64 n286), (.slice A287 n288 c289)]), (.int .i64 n291)]) ∧ SameBut M249 w246 w283 ∧ stCells (⟨g280, 0, none⟩ : Addr) [(.int .i64 n285), (.int .i64 n286), (.slice A287 n288 c289)] 0 w283 fun w292 => SameBut M249 w246 w292 ∧ J248 ((⟨g280, 0, none⟩ : Addr), n291, ()) w292)))) ∧ True))) ∧ (newK w256 (.cells #[(.int .i64 0), (.int .i64 0), (.slice none 0 0)] 49) fun g293 w294 => SameBut M249 w246 w294 ∧ Cll Try.prog 34 #[(.agg #[(.int .i64 n250), (.int .i64 n251), (.slice A252 n253 c254)])] w294 fun v295 w296 => (∃ (n297 : Int), True ∧ ∃ (n298 : Int), True ∧ ∃ (A299 : Option Addr) (n300 : Nat) (c301 : Nat), True ∧ v295 = (.agg #[(.int .i64 n297), (.int .i64 n298), (.slice A299 n300 c301)]) ∧ SameBut M249 w246 w296 ∧ Cll Try.prog 35 #[(.slice A257 n258 c259), (.agg #[(.int .i64 n297), (.int .i64 n298), (.slice A299 n300 c301)]), (.int .i64 x2)] w296 fun v302 w303 => (∃ u304 : Value, (∃ (n305 : Int), True ∧ ∃ (n306 : Int), True ∧ ∃ (A307 : Option Addr) (n308 : Nat) (c309 : Nat), True ∧ u304 = (.agg #[(.int .i64 n305), (.int .i64 n306), (.slice A307 n308 c309)]) ∧ ∃ u310 : Value, (∃ (n311 : Int), u310 = (.int .i64 n311) ∧ v302 = (.tuple #[(.agg #[(.int .i64 n305), (.int .i64 n306), (.slice A307 n308 c309)]), (.int .i64 n311)]) ∧ SameBut M249 w246 w303 ∧ stCells (⟨g293, 0, none⟩ : Addr) [(.int .i64 n305), (.int .i64 n306), (.slice A307 n308 c309)] 0 w303 fun w312 => SameBut M249 w246 w312 ∧ J248 ((⟨g293, 0, none⟩ : Addr), n311, ()) w312))))) ∧ True))) ∧ (newK w246.drew (.cells #[(.int .i64 0), (.int .i64 0), (.slice none 0 0)] 49) fun g313 w314 => SameBut M249 w246 w314 ∧ Cll Try.prog 15 #[(.slice A0 n0 c0)] w314 fun v315 w316 => (∃ (A317 : Option Addr) (n318 : Nat) (c319 : Nat), v315 = (.slice A317 n318 c319) ∧ SameBut M249 w246 w316 ∧ Cll Try.prog 34 #[(.agg #[(.int .i64 n250), (.int .i64 n251), (.slice A252 n253 c254)])] w316 fun v320 w321 => (∃ (n322 : Int), True ∧ ∃ (n323 : Int), True ∧ ∃ (A324 : Option Addr) (n325 : Nat) (c326 : Nat), True ∧ v320 = (.agg #[(.int .i64 n322), (.int .i64 n323), (.slice A324 n325 c326)]) ∧ SameBut M249 w246 w321 ∧ Cll Try.prog 35 #[(.slice A317 n318 c319), (.agg #[(.int .i64 n322), (.int .i64 n323), (.slice A324 n325 c326)]), (.int .i64 x2)] w321 fun v327 w328 => (∃ u329 : Value, (∃ (n330 : Int), True ∧ ∃ (n331 : Int), True ∧ ∃ (A332 : Option Addr) (n333 : Nat) (c334 : Nat), True ∧ u329 = (.agg #[(.int .i64 n330), (.int .i64 n331), (.slice A332 n333 c334)]) ∧ ∃ u335 : Value, (∃ (n336 : Int), u335 = (.int .i64 n336) ∧ v327 = (.tuple #[(.agg #[(.int .i64 n330), (.int .i64 n331), (.slice A332 n333 c334)]), (.int .i64 n336)]) ∧ SameBut M249 w246 w328 ∧ stCells (⟨g313, 0, none⟩ : Addr) [(.int .i64 n330), (.int .i64 n331), (.slice A332 n333 c334)] 0 w328 fun w337 => SameBut M249 w246 w337 ∧ J248 ((⟨g313, 0, none⟩ : Addr), n336, ()) w337)))))) ∧ True))) fun z338 w339 => ∃ (n341 : Int), w339.cell? (z338.1.add 0) = some (.int .i64 n341) ∧ ∃ (n342 : Int), w339.cell? (z338.1.add 1) = some (.int .i64 n342) ∧ ∃ (A343 : Option Addr) (n344 : Nat) (c345 : Nat), w339.cell? (z338.1.add 2) = some (.slice A343 n344 c345) ∧ ∃ (n346 : Int), w339.cell? (z124.1.add 0) = some (.int .i64 n346) ∧ ∃ (n347 : Int), w339.cell? (z124.1.add 1) = some (.int .i64 n347) ∧ ∃ (A348 : Option Addr) (n349 : Nat) (c350 : Nat), w339.cell? (z124.1.add 2) = some (.slice A348 n349 c350) ∧ Cll Try.prog 36 #[(.agg #[(.int .i64 n341), (.int .i64 n342), (.slice A343 n344 c345)]), (.agg #[(.int .i64 n346), (.int .i64 n347), (.slice A348 n349 c350)])] w339 fun v351 w352 => (∃ (b353 : Bool), v351 = (.bool b353) ∧ bcase (!b353) (K (.bool false) w352) (bcase (z338.2.1 != z124.2.1) (K (.bool false) w352) (∃ (n354 : Int), w352.cell? ((⟨g161, 0, none⟩ : Addr).add 0) = some (.int .i64 n354) ∧ ∃ (n355 : Int), w352.cell? ((⟨g161, 0, none⟩ : Addr).add 1) = some (.int .i64 n355) ∧ ∃ (A356 : Option Addr) (n357 : Nat) (c358 : Nat), w352.cell? ((⟨g161, 0, none⟩ : Addr).add 2) = some (.slice A356 n357 c358) ∧ Cll Try.prog 38 #[(.agg #[(.int .i64 n354), (.int .i64 n355), (.slice A356 n357 c358)]), (.int .i64 1)] w352 fun v359 w360 => (∃ (n361 : Int), v359 = (.int .i64 n361) ∧ bcase (decide (n361 < 0)) (K (.bool false) w360) (bcase (n361 != n239) (K (.bool false) w360) (K (.bool true) w360)))))))))))))))))))))))))))))))))))

def laws_FnExactRunLane.ann : Ann := (.seq .l (.seq .l (.seq .l (.seq (.seq .l (.two (.seq .l .l) .l)) (.seq .l (.seq (.seq .l (.two (.seq .l .l) .l)) (.cut [(8, .ptr), (9, .int .i64)] .l (.seq .l (.seq .l (.seq .l (.seq (.seq .l (.two (.seq .l .l) .l)) (.seq (.seq .l (.two (.seq .l .l) .l)) (.seq (.seq .l (.two (.seq .l .l) .l)) (.seq .l (.seq .l (.seq .l (.seq (.seq .l (.two (.seq .l .l) .l)) (.seq .l (.seq .l (.seq .l (.seq .l (.seq (.seq .l (.two (.seq .l .l) .l)) (.seq (.seq .l (.two (.seq .l .l) .l)) (.cut [(17, .ptr), (18, .int .i64)] .l (.seq (.seq .l (.two (.seq .l .l) .l)) (.seq .l (.seq .l (.seq (.seq .l (.two (.seq .l .l) .l)) (.seq (.seq .l (.two (.seq .l .l) .l)) (.seq .l .l))))))))))))))))))))))))))))))

theorem laws_FnExactRunLane.vc_eq (A0 : Option Addr) (n0 : Nat) (c0 : Nat) (x1_0 : Int) (x1_1 : Int) (A1_2 : Option Addr) (n1_2 : Nat) (c1_2 : Nat) (x2 : Int) (w : World) (K : Value → World → Prop) : vcF Try.prog Try.f8 laws_FnExactRunLane.ann [(.slice A0 n0 c0), (.agg #[(.int .i64 x1_0), (.int .i64 x1_1), (.slice A1_2 n1_2 c1_2)]), (.int .i64 x2)] K w = laws_FnExactRunLane.vc A0 n0 c0 x1_0 x1_1 A1_2 n1_2 c1_2 x2 w K := by kernel_rfl

theorem laws_FnExactRunLane.start {A0 : Option Addr} {n0 : Nat} {c0 : Nat} {x1_0 : Int} {x1_1 : Int} {A1_2 : Option Addr} {n1_2 : Nat} {c1_2 : Nat} {x2 : Int} {w : World} {K : Value → World → Prop} (h : laws_FnExactRunLane.vc A0 n0 c0 x1_0 x1_1 A1_2 n1_2 c1_2 x2 w K) : Cll Try.prog 8 #[(.slice A0 n0 c0), (.agg #[(.int .i64 x1_0), (.int .i64 x1_1), (.slice A1_2 n1_2 c1_2)]), (.int .i64 x2)] w K :=
  vcF_sound mixed (fn := Try.f8) (by kernel_rfl) (by kernel_rfl) (an := laws_FnExactRunLane.ann) (args := [(.slice A0 n0 c0), (.agg #[(.int .i64 x1_0), (.int .i64 x1_1), (.slice A1_2 n1_2 c1_2)]), (.int .i64 x2)]) (by rw [laws_FnExactRunLane.vc_eq]; exact h)

theorem laws_FnExactRunLane.con {xs0 : List D.Ins} {A0 : Option Addr} {c0 : Nat} {s1 : D.Lane} {A1_2 : Option Addr} {c1_2 : Nat} {x2 : Int} {r : Bool} {w : World} (hp : M.laws_FnExactRunLane_pre xs0 s1 x2) (hr : r = M.laws_FnExactRunLane xs0 s1 x2) (R0 : Row el70 w A0 xs0) (hc0 : xs0.length ≤ c0) (R1_2 : Row el3 w A1_2 s1.Regs) (hc1_2 : s1.Regs.length ≤ c1_2) :
    Cll Try.prog 8 #[(.slice A0 xs0.length c0), (.agg #[(.int .i64 s1.Thread), (.int .i64 s1.Pc), (.slice A1_2 s1.Regs.length c1_2)]), (.int .i64 x2)] w (fun v_ w_ => v_ = (.bool r) ∧ Ext w w_) := by
  have H := wp.laws_FnExactRunLane.math xs0 s1 x2 hp
  have hB := Ext.refl w
  refine laws_FnExactRunLane.start ?_
  unfold laws_FnExactRunLane.vc
  unfold wp.laws_FnExactRunLane at H
  refine newBlk (fun g3_ w21 L3 P3 e22 => ?_)
  have O3 := P3
  have L3 := Nat.le_trans hB.size L3
  have hB := ethen hB e22
  obtain ⟨hp25, H⟩ := H
  obtain ⟨r23, hr24⟩ : ∃ r_, r_ = M.laws_szInsS xs0 1048576 := ⟨_, rfl⟩
  have H := H r23 hr24
  refine (laws_szInsS.con hp25 hr24 (R0.ext hB) hc0).mono ?_
  rintro _ w26 ⟨rfl, e27⟩
  have O3 := O3.ext e27
  have hB := ethen hB e27
  refine ⟨r23, rfl, ?_⟩
  refine bcase_mk (fun hc326 => ?_) (fun hc326 => ?_)
  · have H := (bcase_iff.1 H).1 hc326
    obtain rfl := hr.trans H.symm
    exact ⟨rfl, hB⟩
  · have H := (bcase_iff.1 H).2 hc326
    refine ⟨_, (O3.at 0 rfl rfl), ?_⟩
    refine ⟨_, (O3.at 1 rfl rfl), ?_⟩
    refine ⟨_, _, _, (O3.at 2 rfl rfl), ?_⟩
    obtain ⟨hp30, H⟩ := H
    obtain ⟨r28, hr29⟩ : ∃ r_, r_ = M.laws_szLane s1 r23 := ⟨_, rfl⟩
    have H := H r28 hr29
    refine (laws_szLane.con hp30 hr29 (R1_2.ext hB) hc1_2).mono ?_
    rintro _ w31 ⟨rfl, e32⟩
    have O3 := O3.ext e32
    have hB := ethen hB e32
    refine ⟨r28, rfl, ?_⟩
    refine bcase_mk (fun hc325 => ?_) (fun hc325 => ?_)
    · have H := (bcase_iff.1 H).1 hc325
      obtain rfl := hr.trans H.symm
      exact ⟨rfl, hB⟩
    · have H := (bcase_iff.1 H).2 hc325
      obtain ⟨K324, hKK324, H⟩ := joinP_out H
      refine ⟨fun z_ w_ => ∃ (i33 : Int) (i34 : Int) (xs35 : List Int) (i38 : Int) (g17_ : Nat) (A36 : Option Addr) (c37 : Nat), z_ = ((⟨g17_, 0, none⟩ : Addr), i38, ()) ∧ K324 (i33, i34, xs35, i38, ()) ∧ Ext w w_ ∧ Blk w_ g17_ 49 #[(.int .i64 i33), (.int .i64 i34), (.slice A36 xs35.length c37)] ∧ w.heap.size ≤ g17_ ∧ Own el3 w_ w.heap.size A36 c37 xs35 ∧ Blk w_ g3_ 47 #[(.int .i64 s1.Thread), (.int .i64 s1.Pc), (.slice A1_2 s1.Regs.length c1_2)], ?_, ?_⟩
      · refine ⟨(fun _ => False), ?_⟩
        refine ⟨_, ⟨(fun h_ => h_), (O3.at 0 rfl rfl)⟩, ?_⟩
        refine ⟨_, ⟨(fun h_ => h_), (O3.at 1 rfl rfl)⟩, ?_⟩
        refine ⟨_, _, _, ⟨(fun h_ => h_), (O3.at 2 rfl rfl)⟩, ?_⟩
        refine And.intro ?_ ?_
        · have H := H.1
          have hS42 := Chg.refl (fun _ => False) w31
          have O3 := O3.ext (Ext.drew _)
          have hB := ethen hB (Ext.drew _)
          have hS42 := hS42.then (Ext.drew _)
          obtain ⟨hp45, H⟩ := H
          obtain ⟨r43, hr44⟩ : ∃ r_, r_ = M.laws_toInsS xs0 := ⟨_, rfl⟩
          have H := H r43 hr44
          refine (laws_toInsS.con hp45 hr44 (R0.ext hB) hc0).mono ?_
          rintro _ w46 ⟨A48, c49, rfl, P19, e47⟩
          have N19_3 := P19.apart_old O3.lt
          have O3 := O3.ext e47
          have LB19 := (P19.mono hS42.size).low
          have O19 := P19.mono hB.size
          have hB := ethen hB e47
          have hS42 := hS42.then e47
          refine ⟨A48, r43.length, c49, rfl, ?_⟩
          refine ⟨sameBut_chg hS42, ?_⟩
          refine And.intro ?_ ?_
          · have H := H.1
            obtain ⟨hp52, H⟩ := H
            obtain ⟨r50, hr51⟩ : ∃ r_, r_ = M.laws_toLane s1 := ⟨_, rfl⟩
            have H := H r50 hr51
            refine (laws_toLane.con hp52 hr51 (R1_2.ext hB) hc1_2).mono ?_
            rintro _ w53 ⟨A55, c56, rfl, P20, e54⟩
            have N20_3 := P20.apart_old O3.lt
            have N19_20 := Own.apart2_new O19 P20 (Nat.le_refl _)
            have O3 := O3.ext e54
            have O19 := O19.ext e54
            have LB20 := (P20.mono hS42.size).low
            have O20 := P20.mono hB.size
            have hB := ethen hB e54
            have hS42 := hS42.then e54
            refine ⟨r50.Thread, trivial, ?_⟩
            refine ⟨r50.Pc, trivial, ?_⟩
            refine ⟨A55, r50.Regs.length, c56, trivial, ?_⟩
            refine ⟨rfl, ?_⟩
            refine ⟨sameBut_chg hS42, ?_⟩
            refine And.intro ?_ ?_
            · have H := H.1
              obtain ⟨hp59, H⟩ := H
              obtain ⟨r57, hr58⟩ : ∃ r_, r_ = M.spec_RunLane r43 r50 x2 := ⟨_, rfl⟩
              have H := H r57 hr58
              refine (spec_RunLane.con hp59 hr58 O19.row O19.le O20.row O20.le).mono ?_
              rintro _ w60 ⟨A62, c63, rfl, P21, e61⟩
              have N21_3 := P21.apart_old O3.lt
              have N19_21 := Own.apart2_new O19 P21 (Nat.le_refl _)
              have N20_21 := Own.apart2_new O20 P21 (Nat.le_refl _)
              have O3 := O3.ext e61
              have O19 := O19.ext e61
              have O20 := O20.ext e61
              have LB21 := (P21.mono hS42.size).low
              have O21 := P21.mono hB.size
              have hB := ethen hB e61
              have hS42 := hS42.then e61
              refine ⟨(.agg #[(.int .i64 r57.1.Thread), (.int .i64 r57.1.Pc), (.slice A62 r57.1.Regs.length c63)]), ?_⟩
              refine ⟨r57.1.Thread, trivial, ?_⟩
              refine ⟨r57.1.Pc, trivial, ?_⟩
              refine ⟨A62, r57.1.Regs.length, c63, trivial, ?_⟩
              refine ⟨rfl, ?_⟩
              refine ⟨(.int .i64 r57.2), ?_⟩
              refine ⟨r57.2, rfl, ?_⟩
              refine ⟨rfl, ?_⟩
              refine ⟨sameBut_chg hS42, ?_⟩
              refine newBlk (fun g22_ w64 L22 P22 e65 => ?_)
              have N3_22 := O3.ne L22
              have N19_22 := O19.apart_new L22
              have N20_22 := O20.apart_new L22
              have N21_22 := O21.apart_new L22
              have O3 := O3.ext e65
              have O19 := O19.ext e65
              have O20 := O20.ext e65
              have O21 := O21.ext e65
              have O22 := P22
              have LB22 := Nat.le_trans hS42.size L22
              have L22 := Nat.le_trans hB.size L22
              have hB := ethen hB e65
              have hS42 := hS42.then e65
              refine ⟨sameBut_chg hS42, ?_⟩
              refine stBlk O22 (o := 0) (cs' := #[(.int .i64 r57.1.Thread), (.int .i64 r57.1.Pc), (.slice A62 r57.1.Regs.length c63)]) rfl rfl (Nat.le_of_ble_eq_true rfl) rfl (fun w66 P22 e67 => ?_)
              have O3_ := O3.chg e67 N3_22
              have O19_ := O19.chg e67 N19_22
              have O20_ := O20.chg e67 N20_22
              have O21_ := O21.chg e67 N21_22
              have O3 := O3_
              have O19 := O19_
              have O20 := O20_
              have O21 := O21_
              have hB := echg hB e67 L22
              have hS42 := hS42.chgb e67 (Or.inl LB22)
              have O22 := P22
              refine ⟨sameBut_chg hS42, ?_⟩
              exact ⟨r57.1.Thread, r57.1.Pc, r57.1.Regs, r57.2, g22_, A62, c63, rfl, H, hB, O22, L22, O21, O3⟩
            · refine And.intro ?_ ?_
              · have H := H.2.1
                refine newBlk (fun g23_ w68 L23 P23 e69 => ?_)
                have N3_23 := O3.ne L23
                have N19_23 := O19.apart_new L23
                have N20_23 := O20.apart_new L23
                have O3 := O3.ext e69
                have O19 := O19.ext e69
                have O20 := O20.ext e69
                have O23 := P23
                have LB23 := Nat.le_trans hS42.size L23
                have L23 := Nat.le_trans hB.size L23
                have hB := ethen hB e69
                have hS42 := hS42.then e69
                refine ⟨sameBut_chg hS42, ?_⟩
                obtain ⟨hp72, H⟩ := H
                obtain ⟨r70, hr71⟩ : ∃ r_, r_ = M.spec_RunLane r43 r50 x2 := ⟨_, rfl⟩
                have H := H r70 hr71
                refine (spec_RunLane.con hp72 hr71 O19.row O19.le O20.row O20.le).mono ?_
                rintro _ w73 ⟨A75, c76, rfl, P24, e74⟩
                have N24_3 := P24.apart_old O3.lt
                have N19_24 := Own.apart2_new O19 P24 (Nat.le_refl _)
                have N20_24 := Own.apart2_new O20 P24 (Nat.le_refl _)
                have N24_23 := P24.apart_old O23.lt
                have O3 := O3.ext e74
                have O19 := O19.ext e74
                have O20 := O20.ext e74
                have O23 := O23.ext e74
                have LB24 := (P24.mono hS42.size).low
                have O24 := P24.mono hB.size
                have hB := ethen hB e74
                have hS42 := hS42.then e74
                refine ⟨(.agg #[(.int .i64 r70.1.Thread), (.int .i64 r70.1.Pc), (.slice A75 r70.1.Regs.length c76)]), ?_⟩
                refine ⟨r70.1.Thread, trivial, ?_⟩
                refine ⟨r70.1.Pc, trivial, ?_⟩
                refine ⟨A75, r70.1.Regs.length, c76, trivial, ?_⟩
                refine ⟨rfl, ?_⟩
                refine ⟨(.int .i64 r70.2), ?_⟩
                refine ⟨r70.2, rfl, ?_⟩
                refine ⟨rfl, ?_⟩
                refine ⟨sameBut_chg hS42, ?_⟩
                refine stBlk O23 (o := 0) (cs' := #[(.int .i64 r70.1.Thread), (.int .i64 r70.1.Pc), (.slice A75 r70.1.Regs.length c76)]) rfl rfl (Nat.le_of_ble_eq_true rfl) rfl (fun w77 P23 e78 => ?_)
                have O3_ := O3.chg e78 N3_23
                have O19_ := O19.chg e78 N19_23
                have O20_ := O20.chg e78 N20_23
                have O24_ := O24.chg e78 N24_23
                have O3 := O3_
                have O19 := O19_
                have O20 := O20_
                have O24 := O24_
                have hB := echg hB e78 L23
                have hS42 := hS42.chgb e78 (Or.inl LB23)
                have O23 := P23
                refine ⟨sameBut_chg hS42, ?_⟩
                exact ⟨r70.1.Thread, r70.1.Pc, r70.1.Regs, r70.2, g23_, A75, c76, rfl, H, hB, O23, L23, O24, O3⟩
              · exact trivial
          · refine And.intro ?_ ?_
            · have H := H.2.1
              refine newBlk (fun g25_ w79 L25 P25 e80 => ?_)
              have N3_25 := O3.ne L25
              have N19_25 := O19.apart_new L25
              have O3 := O3.ext e80
              have O19 := O19.ext e80
              have O25 := P25
              have LB25 := Nat.le_trans hS42.size L25
              have L25 := Nat.le_trans hB.size L25
              have hB := ethen hB e80
              have hS42 := hS42.then e80
              refine ⟨sameBut_chg hS42, ?_⟩
              obtain ⟨hp83, H⟩ := H
              obtain ⟨r81, hr82⟩ : ∃ r_, r_ = M.laws_toLane s1 := ⟨_, rfl⟩
              have H := H r81 hr82
              refine (laws_toLane.con hp83 hr82 (R1_2.ext hB) hc1_2).mono ?_
              rintro _ w84 ⟨A86, c87, rfl, P26, e85⟩
              have N26_3 := P26.apart_old O3.lt
              have N19_26 := Own.apart2_new O19 P26 (Nat.le_refl _)
              have N26_25 := P26.apart_old O25.lt
              have O3 := O3.ext e85
              have O19 := O19.ext e85
              have O25 := O25.ext e85
              have LB26 := (P26.mono hS42.size).low
              have O26 := P26.mono hB.size
              have hB := ethen hB e85
              have hS42 := hS42.then e85
              refine ⟨r81.Thread, trivial, ?_⟩
              refine ⟨r81.Pc, trivial, ?_⟩
              refine ⟨A86, r81.Regs.length, c87, trivial, ?_⟩
              refine ⟨rfl, ?_⟩
              refine ⟨sameBut_chg hS42, ?_⟩
              obtain ⟨hp90, H⟩ := H
              obtain ⟨r88, hr89⟩ : ∃ r_, r_ = M.spec_RunLane r43 r81 x2 := ⟨_, rfl⟩
              have H := H r88 hr89
              refine (spec_RunLane.con hp90 hr89 O19.row O19.le O26.row O26.le).mono ?_
              rintro _ w91 ⟨A93, c94, rfl, P27, e92⟩
              have N27_3 := P27.apart_old O3.lt
              have N19_27 := Own.apart2_new O19 P27 (Nat.le_refl _)
              have N27_25 := P27.apart_old O25.lt
              have N26_27 := Own.apart2_new O26 P27 (Nat.le_refl _)
              have O3 := O3.ext e92
              have O19 := O19.ext e92
              have O25 := O25.ext e92
              have O26 := O26.ext e92
              have LB27 := (P27.mono hS42.size).low
              have O27 := P27.mono hB.size
              have hB := ethen hB e92
              have hS42 := hS42.then e92
              refine ⟨(.agg #[(.int .i64 r88.1.Thread), (.int .i64 r88.1.Pc), (.slice A93 r88.1.Regs.length c94)]), ?_⟩
              refine ⟨r88.1.Thread, trivial, ?_⟩
              refine ⟨r88.1.Pc, trivial, ?_⟩
              refine ⟨A93, r88.1.Regs.length, c94, trivial, ?_⟩
              refine ⟨rfl, ?_⟩
              refine ⟨(.int .i64 r88.2), ?_⟩
              refine ⟨r88.2, rfl, ?_⟩
              refine ⟨rfl, ?_⟩
              refine ⟨sameBut_chg hS42, ?_⟩
              refine stBlk O25 (o := 0) (cs' := #[(.int .i64 r88.1.Thread), (.int .i64 r88.1.Pc), (.slice A93 r88.1.Regs.length c94)]) rfl rfl (Nat.le_of_ble_eq_true rfl) rfl (fun w95 P25 e96 => ?_)
              have O3_ := O3.chg e96 N3_25
              have O19_ := O19.chg e96 N19_25
              have O26_ := O26.chg e96 N26_25
              have O27_ := O27.chg e96 N27_25
              have O3 := O3_
              have O19 := O19_
              have O26 := O26_
              have O27 := O27_
              have hB := echg hB e96 L25
              have hS42 := hS42.chgb e96 (Or.inl LB25)
              have O25 := P25
              refine ⟨sameBut_chg hS42, ?_⟩
              exact ⟨r88.1.Thread, r88.1.Pc, r88.1.Regs, r88.2, g25_, A93, c94, rfl, H, hB, O25, L25, O27, O3⟩
            · exact trivial
        · refine And.intro ?_ ?_
          · have H := H.2.1
            have hS42 := Chg.refl (fun _ => False) w31
            have O3 := O3.ext (Ext.drew _)
            have hB := ethen hB (Ext.drew _)
            have hS42 := hS42.then (Ext.drew _)
            refine newBlk (fun g28_ w97 L28 P28 e98 => ?_)
            have N3_28 := O3.ne L28
            have O3 := O3.ext e98
            have O28 := P28
            have LB28 := Nat.le_trans hS42.size L28
            have L28 := Nat.le_trans hB.size L28
            have hB := ethen hB e98
            have hS42 := hS42.then e98
            refine ⟨sameBut_chg hS42, ?_⟩
            obtain ⟨hp101, H⟩ := H
            obtain ⟨r99, hr100⟩ : ∃ r_, r_ = M.laws_toInsS xs0 := ⟨_, rfl⟩
            have H := H r99 hr100
            refine (laws_toInsS.con hp101 hr100 (R0.ext hB) hc0).mono ?_
            rintro _ w102 ⟨A104, c105, rfl, P29, e103⟩
            have N29_3 := P29.apart_old O3.lt
            have N29_28 := P29.apart_old O28.lt
            have O3 := O3.ext e103
            have O28 := O28.ext e103
            have LB29 := (P29.mono hS42.size).low
            have O29 := P29.mono hB.size
            have hB := ethen hB e103
            have hS42 := hS42.then e103
            refine ⟨A104, r99.length, c105, rfl, ?_⟩
            refine ⟨sameBut_chg hS42, ?_⟩
            obtain ⟨hp108, H⟩ := H
            obtain ⟨r106, hr107⟩ : ∃ r_, r_ = M.laws_toLane s1 := ⟨_, rfl⟩
            have H := H r106 hr107
            refine (laws_toLane.con hp108 hr107 (R1_2.ext hB) hc1_2).mono ?_
            rintro _ w109 ⟨A111, c112, rfl, P30, e110⟩
            have N30_3 := P30.apart_old O3.lt
            have N30_28 := P30.apart_old O28.lt
            have N29_30 := Own.apart2_new O29 P30 (Nat.le_refl _)
            have O3 := O3.ext e110
            have O28 := O28.ext e110
            have O29 := O29.ext e110
            have LB30 := (P30.mono hS42.size).low
            have O30 := P30.mono hB.size
            have hB := ethen hB e110
            have hS42 := hS42.then e110
            refine ⟨r106.Thread, trivial, ?_⟩
            refine ⟨r106.Pc, trivial, ?_⟩
            refine ⟨A111, r106.Regs.length, c112, trivial, ?_⟩
            refine ⟨rfl, ?_⟩
            refine ⟨sameBut_chg hS42, ?_⟩
            obtain ⟨hp115, H⟩ := H
            obtain ⟨r113, hr114⟩ : ∃ r_, r_ = M.spec_RunLane r99 r106 x2 := ⟨_, rfl⟩
            have H := H r113 hr114
            refine (spec_RunLane.con hp115 hr114 O29.row O29.le O30.row O30.le).mono ?_
            rintro _ w116 ⟨A118, c119, rfl, P31, e117⟩
            have N31_3 := P31.apart_old O3.lt
            have N31_28 := P31.apart_old O28.lt
            have N29_31 := Own.apart2_new O29 P31 (Nat.le_refl _)
            have N30_31 := Own.apart2_new O30 P31 (Nat.le_refl _)
            have O3 := O3.ext e117
            have O28 := O28.ext e117
            have O29 := O29.ext e117
            have O30 := O30.ext e117
            have LB31 := (P31.mono hS42.size).low
            have O31 := P31.mono hB.size
            have hB := ethen hB e117
            have hS42 := hS42.then e117
            refine ⟨(.agg #[(.int .i64 r113.1.Thread), (.int .i64 r113.1.Pc), (.slice A118 r113.1.Regs.length c119)]), ?_⟩
            refine ⟨r113.1.Thread, trivial, ?_⟩
            refine ⟨r113.1.Pc, trivial, ?_⟩
            refine ⟨A118, r113.1.Regs.length, c119, trivial, ?_⟩
            refine ⟨rfl, ?_⟩
            refine ⟨(.int .i64 r113.2), ?_⟩
            refine ⟨r113.2, rfl, ?_⟩
            refine ⟨rfl, ?_⟩
            refine ⟨sameBut_chg hS42, ?_⟩
            refine stBlk O28 (o := 0) (cs' := #[(.int .i64 r113.1.Thread), (.int .i64 r113.1.Pc), (.slice A118 r113.1.Regs.length c119)]) rfl rfl (Nat.le_of_ble_eq_true rfl) rfl (fun w120 P28 e121 => ?_)
            have O3_ := O3.chg e121 N3_28
            have O29_ := O29.chg e121 N29_28
            have O30_ := O30.chg e121 N30_28
            have O31_ := O31.chg e121 N31_28
            have O3 := O3_
            have O29 := O29_
            have O30 := O30_
            have O31 := O31_
            have hB := echg hB e121 L28
            have hS42 := hS42.chgb e121 (Or.inl LB28)
            have O28 := P28
            refine ⟨sameBut_chg hS42, ?_⟩
            exact ⟨r113.1.Thread, r113.1.Pc, r113.1.Regs, r113.2, g28_, A118, c119, rfl, H, hB, O28, L28, O31, O3⟩
          · exact trivial
      · rintro _ w40 ⟨i33, i34, xs35, i38, g17_, A36, c37, rfl, H, hB, O17, L17, O18, O3⟩
        have H := hKK324 _ H
        dsimp only at H ⊢
        obtain ⟨hp124, H⟩ := H
        obtain ⟨r122, hr123⟩ : ∃ r_, r_ = M.laws_toInsS xs0 := ⟨_, rfl⟩
        have H := H r122 hr123
        refine (laws_toInsS.con hp124 hr123 (R0.ext hB) hc0).mono ?_
        rintro _ w125 ⟨A127, c128, rfl, P32, e126⟩
        have N32_3 := P32.apart_old O3.lt
        have N32_17 := P32.apart_old O17.lt
        have N18_32 := Own.apart2_new O18 P32 (Nat.le_refl _)
        have O3 := O3.ext e126
        have O17 := O17.ext e126
        have O18 := O18.ext e126
        have O32 := P32.mono hB.size
        have hB := ethen hB e126
        refine ⟨A127, r122.length, c128, rfl, ?_⟩
        refine ⟨_, (O3.at 0 rfl rfl), ?_⟩
        refine ⟨_, (O3.at 1 rfl rfl), ?_⟩
        refine ⟨_, _, _, (O3.at 2 rfl rfl), ?_⟩
        obtain ⟨hp131, H⟩ := H
        obtain ⟨r129, hr130⟩ : ∃ r_, r_ = M.laws_toLane s1 := ⟨_, rfl⟩
        have H := H r129 hr130
        refine (laws_toLane.con hp131 hr130 (R1_2.ext hB) hc1_2).mono ?_
        rintro _ w132 ⟨A134, c135, rfl, P33, e133⟩
        have N33_3 := P33.apart_old O3.lt
        have N33_17 := P33.apart_old O17.lt
        have N18_33 := Own.apart2_new O18 P33 (Nat.le_refl _)
        have N32_33 := Own.apart2_new O32 P33 (Nat.le_refl _)
        have O3 := O3.ext e133
        have O17 := O17.ext e133
        have O18 := O18.ext e133
        have O32 := O32.ext e133
        have O33 := P33.mono hB.size
        have hB := ethen hB e133
        refine ⟨r129.Thread, trivial, ?_⟩
        refine ⟨r129.Pc, trivial, ?_⟩
        refine ⟨A134, r129.Regs.length, c135, trivial, ?_⟩
        refine ⟨rfl, ?_⟩
        refine newBlk (fun g34_ w136 L34 P34 e137 => ?_)
        have N3_34 := O3.ne L34
        have N17_34 := O17.ne L34
        have N18_34 := O18.apart_new L34
        have N32_34 := O32.apart_new L34
        have N33_34 := O33.apart_new L34
        have O3 := O3.ext e137
        have O17 := O17.ext e137
        have O18 := O18.ext e137
        have O32 := O32.ext e137
        have O33 := O33.ext e137
        have O34 := P34
        have L34 := Nat.le_trans hB.size L34
        have hB := ethen hB e137
        refine stBlk O34 (o := 0) (cs' := #[(.int .i64 r129.Thread), (.int .i64 r129.Pc), (.slice A134 r129.Regs.length c135)]) rfl rfl (Nat.le_of_ble_eq_true rfl) rfl (fun w138 P34 e139 => ?_)
        have O3_ := O3.chg e139 N3_34
        have O17_ := O17.chg e139 N17_34
        have O18_ := O18.chg e139 N18_34
        have O32_ := O32.chg e139 N32_34
        have O33_ := O33.chg e139 N33_34
        have O3 := O3_
        have O17 := O17_
        have O18 := O18_
        have O32 := O32_
        have O33 := O33_
        have hB := echg hB e139 L34
        have O34 := P34
        refine ⟨_, (O34.at 0 rfl rfl), ?_⟩
        refine ⟨_, (O34.at 1 rfl rfl), ?_⟩
        refine ⟨_, _, _, (O34.at 2 rfl rfl), ?_⟩
        obtain ⟨hp142, H⟩ := H
        obtain ⟨r140, hr141⟩ : ∃ r_, r_ = M.impl_RunLane r122 r129 x2 := ⟨_, rfl⟩
        have H := H r140 hr141
        refine (impl_RunLane.con hp142 hr141 O32.row O32.le O33.row O33.le).mono ?_
        rintro _ w143 ⟨A145, c146, rfl, P35, e144⟩
        have N35_3 := P35.apart_old O3.lt
        have N35_17 := P35.apart_old O17.lt
        have N18_35 := Own.apart2_new O18 P35 (Nat.le_refl _)
        have N32_35 := Own.apart2_new O32 P35 (Nat.le_refl _)
        have N33_35 := Own.apart2_new O33 P35 (Nat.le_refl _)
        have N35_34 := P35.apart_old O34.lt
        have O3 := O3.ext e144
        have O17 := O17.ext e144
        have O18 := O18.ext e144
        have O32 := O32.ext e144
        have O33 := O33.ext e144
        have O34 := O34.ext e144
        have O35 := P35.mono hB.size
        have hB := ethen hB e144
        refine ⟨(.agg #[(.int .i64 r140.1.Thread), (.int .i64 r140.1.Pc), (.slice A145 r140.1.Regs.length c146)]), ?_⟩
        refine ⟨r140.1.Thread, trivial, ?_⟩
        refine ⟨r140.1.Pc, trivial, ?_⟩
        refine ⟨A145, r140.1.Regs.length, c146, trivial, ?_⟩
        refine ⟨rfl, ?_⟩
        refine ⟨(.int .i64 r140.2), ?_⟩
        refine ⟨r140.2, rfl, ?_⟩
        refine ⟨rfl, ?_⟩
        refine newBlk (fun g36_ w147 L36 P36 e148 => ?_)
        have N3_36 := O3.ne L36
        have N17_36 := O17.ne L36
        have N18_36 := O18.apart_new L36
        have N32_36 := O32.apart_new L36
        have N33_36 := O33.apart_new L36
        have N34_36 := O34.ne L36
        have N35_36 := O35.apart_new L36
        have O3 := O3.ext e148
        have O17 := O17.ext e148
        have O18 := O18.ext e148
        have O32 := O32.ext e148
        have O33 := O33.ext e148
        have O34 := O34.ext e148
        have O35 := O35.ext e148
        have O36 := P36
        have L36 := Nat.le_trans hB.size L36
        have hB := ethen hB e148
        refine stBlk O36 (o := 0) (cs' := #[(.int .i64 r140.1.Thread), (.int .i64 r140.1.Pc), (.slice A145 r140.1.Regs.length c146)]) rfl rfl (Nat.le_of_ble_eq_true rfl) rfl (fun w149 P36 e150 => ?_)
        have O3_ := O3.chg e150 N3_36
        have O17_ := O17.chg e150 N17_36
        have O18_ := O18.chg e150 N18_36
        have O32_ := O32.chg e150 N32_36
        have O33_ := O33.chg e150 N33_36
        have O34_ := O34.chg e150 N34_36
        have O35_ := O35.chg e150 N35_36
        have O3 := O3_
        have O17 := O17_
        have O18 := O18_
        have O32 := O32_
        have O33 := O33_
        have O34 := O34_
        have O35 := O35_
        have hB := echg hB e150 L36
        have O36 := P36
        refine ⟨_, (O36.at 0 rfl rfl), ?_⟩
        refine ⟨_, (O36.at 1 rfl rfl), ?_⟩
        refine ⟨_, _, _, (O36.at 2 rfl rfl), ?_⟩
        refine ⟨_, (O17.at 0 rfl rfl), ?_⟩
        refine ⟨_, (O17.at 1 rfl rfl), ?_⟩
        refine ⟨_, _, _, (O17.at 2 rfl rfl), ?_⟩
        obtain ⟨hp153, H⟩ := H
        obtain ⟨r151, hr152⟩ : ∃ r_, r_ = M.laws_eqLane r140.1 (⟨i33, i34, xs35⟩ : D.Lane) := ⟨_, rfl⟩
        have H := H r151 hr152
        refine (laws_eqLane.con hp153 hr152 O35.row O35.le O18.row O18.le).mono ?_
        rintro _ w154 ⟨rfl, e155⟩
        have O3 := O3.ext e155
        have O17 := O17.ext e155
        have O18 := O18.ext e155
        have O32 := O32.ext e155
        have O33 := O33.ext e155
        have O34 := O34.ext e155
        have O35 := O35.ext e155
        have O36 := O36.ext e155
        have hB := ethen hB e155
        refine ⟨r151, rfl, ?_⟩
        refine bcase_mk (fun hc322 => ?_) (fun hc322 => ?_)
        · have H := (bcase_iff.1 H).1 hc322
          obtain rfl := hr.trans H.symm
          exact ⟨rfl, hB⟩
        · have H := (bcase_iff.1 H).2 hc322
          refine bcase_mk (fun hc321 => ?_) (fun hc321 => ?_)
          · have H := (bcase_iff.1 H).1 hc321
            obtain rfl := hr.trans H.symm
            exact ⟨rfl, hB⟩
          · have H := (bcase_iff.1 H).2 hc321
            obtain ⟨hp158, H⟩ := H
            obtain ⟨r156, hr157⟩ : ∃ r_, r_ = M.laws_toInsS xs0 := ⟨_, rfl⟩
            have H := H r156 hr157
            refine (laws_toInsS.con hp158 hr157 (R0.ext hB) hc0).mono ?_
            rintro _ w159 ⟨A161, c162, rfl, P37, e160⟩
            have N37_3 := P37.apart_old O3.lt
            have N37_17 := P37.apart_old O17.lt
            have N18_37 := Own.apart2_new O18 P37 (Nat.le_refl _)
            have N32_37 := Own.apart2_new O32 P37 (Nat.le_refl _)
            have N33_37 := Own.apart2_new O33 P37 (Nat.le_refl _)
            have N37_34 := P37.apart_old O34.lt
            have N35_37 := Own.apart2_new O35 P37 (Nat.le_refl _)
            have N37_36 := P37.apart_old O36.lt
            have O3 := O3.ext e160
            have O17 := O17.ext e160
            have O18 := O18.ext e160
            have O32 := O32.ext e160
            have O33 := O33.ext e160
            have O34 := O34.ext e160
            have O35 := O35.ext e160
            have O36 := O36.ext e160
            have O37 := P37.mono hB.size
            have hB := ethen hB e160
            refine ⟨A161, r156.length, c162, rfl, ?_⟩
            obtain ⟨hp165, H⟩ := H
            obtain ⟨r163, hr164⟩ : ∃ r_, r_ = M.laws_eqInsS r122 r156 := ⟨_, rfl⟩
            have H := H r163 hr164
            refine (laws_eqInsS.con hp165 hr164 O32.row O32.le O37.row O37.le).mono ?_
            rintro _ w166 ⟨rfl, e167⟩
            have O3 := O3.ext e167
            have O17 := O17.ext e167
            have O18 := O18.ext e167
            have O32 := O32.ext e167
            have O33 := O33.ext e167
            have O34 := O34.ext e167
            have O35 := O35.ext e167
            have O36 := O36.ext e167
            have O37 := O37.ext e167
            have hB := ethen hB e167
            refine ⟨r163, rfl, ?_⟩
            refine bcase_mk (fun hc320 => ?_) (fun hc320 => ?_)
            · have H := (bcase_iff.1 H).1 hc320
              obtain rfl := hr.trans H.symm
              exact ⟨rfl, hB⟩
            · have H := (bcase_iff.1 H).2 hc320
              refine ⟨(fun _ => False), ?_⟩
              refine ⟨_, ⟨(fun h_ => h_), (O34.at 0 rfl rfl)⟩, ?_⟩
              refine ⟨_, ⟨(fun h_ => h_), (O34.at 1 rfl rfl)⟩, ?_⟩
              refine ⟨_, _, _, ⟨(fun h_ => h_), (O34.at 2 rfl rfl)⟩, ?_⟩
              refine ⟨_, ⟨(fun h_ => h_), (O3.at 0 rfl rfl)⟩, ?_⟩
              refine ⟨_, ⟨(fun h_ => h_), (O3.at 1 rfl rfl)⟩, ?_⟩
              refine ⟨_, _, _, ⟨(fun h_ => h_), (O3.at 2 rfl rfl)⟩, ?_⟩
              have hS168 := Chg.refl (fun _ => False) w166
              have O3 := O3.ext (Ext.drew _)
              have O17 := O17.ext (Ext.drew _)
              have O18 := O18.ext (Ext.drew _)
              have O32 := O32.ext (Ext.drew _)
              have O33 := O33.ext (Ext.drew _)
              have O34 := O34.ext (Ext.drew _)
              have O35 := O35.ext (Ext.drew _)
              have O36 := O36.ext (Ext.drew _)
              have O37 := O37.ext (Ext.drew _)
              have hB := ethen hB (Ext.drew _)
              have hS168 := hS168.then (Ext.drew _)
              obtain ⟨hp171, H⟩ := H
              obtain ⟨r169, hr170⟩ : ∃ r_, r_ = M.laws_toLane s1 := ⟨_, rfl⟩
              have H := H r169 hr170
              refine (laws_toLane.con hp171 hr170 (R1_2.ext hB) hc1_2).mono ?_
              rintro _ w172 ⟨A174, c175, rfl, P38, e173⟩
              have N38_3 := P38.apart_old O3.lt
              have N38_17 := P38.apart_old O17.lt
              have N18_38 := Own.apart2_new O18 P38 (Nat.le_refl _)
              have N32_38 := Own.apart2_new O32 P38 (Nat.le_refl _)
              have N33_38 := Own.apart2_new O33 P38 (Nat.le_refl _)
              have N38_34 := P38.apart_old O34.lt
              have N35_38 := Own.apart2_new O35 P38 (Nat.le_refl _)
              have N38_36 := P38.apart_old O36.lt
              have N37_38 := Own.apart2_new O37 P38 (Nat.le_refl _)
              have O3 := O3.ext e173
              have O17 := O17.ext e173
              have O18 := O18.ext e173
              have O32 := O32.ext e173
              have O33 := O33.ext e173
              have O34 := O34.ext e173
              have O35 := O35.ext e173
              have O36 := O36.ext e173
              have O37 := O37.ext e173
              have LB38 := (P38.mono hS168.size).low
              have O38 := P38.mono hB.size
              have hB := ethen hB e173
              have hS168 := hS168.then e173
              refine ⟨r169.Thread, trivial, ?_⟩
              refine ⟨r169.Pc, trivial, ?_⟩
              refine ⟨A174, r169.Regs.length, c175, trivial, ?_⟩
              refine ⟨rfl, ?_⟩
              refine ⟨sameBut_chg hS168, ?_⟩
              obtain ⟨hp178, H⟩ := H
              obtain ⟨r176, hr177⟩ : ∃ r_, r_ = M.laws_eqLane r129 r169 := ⟨_, rfl⟩
              have H := H r176 hr177
              refine (laws_eqLane.con hp178 hr177 O33.row O33.le O38.row O38.le).mono ?_
              rintro _ w179 ⟨rfl, e180⟩
              have O3 := O3.ext e180
              have O17 := O17.ext e180
              have O18 := O18.ext e180
              have O32 := O32.ext e180
              have O33 := O33.ext e180
              have O34 := O34.ext e180
              have O35 := O35.ext e180
              have O36 := O36.ext e180
              have O37 := O37.ext e180
              have O38 := O38.ext e180
              have hB := ethen hB e180
              have hS168 := hS168.then e180
              refine ⟨r176, rfl, ?_⟩
              refine ⟨sameBut_chg hS168, ?_⟩
              refine bcase_mk (fun hc319 => ?_) (fun hc319 => ?_)
              · have H := (bcase_iff.1 H).1 hc319
                obtain rfl := hr.trans H.symm
                exact ⟨rfl, hB⟩
              · have H := (bcase_iff.1 H).2 hc319
                obtain ⟨hp183, H⟩ := H
                obtain ⟨r181, hr182⟩ : ∃ r_, r_ = M.laws_markInsS r122 1 := ⟨_, rfl⟩
                have H := H r181 hr182
                refine (laws_markInsS.con hp183 hr182 (O32.mono (Nat.zero_le _))).mono ?_
                rintro _ w184 ⟨rfl, Q32, hl186, e185⟩
                have O3 := O3.chgS e185 (N32_3).inb
                have O17 := O17.chgS e185 (N32_17).inb
                have O18 := O18.chgS e185 (N18_32).inb
                have O33 := O33.chgS e185 ((N32_33).symm).inb
                have O34 := O34.chgS e185 (N32_34).inb
                have O35 := O35.chgS e185 ((N32_35).symm).inb
                have O36 := O36.chgS e185 (N32_36).inb
                have O37 := O37.chgS e185 ((N32_37).symm).inb
                have O38 := O38.chgS e185 ((N32_38).symm).inb
                have hB := Chg.ext hB e185 O32.low
                have O32 := Q32.up O32
                refine ⟨r181.1, rfl, ?_⟩
                refine ⟨_, (O34.at 0 rfl rfl), ?_⟩
                refine ⟨_, (O34.at 1 rfl rfl), ?_⟩
                refine ⟨_, _, _, (O34.at 2 rfl rfl), ?_⟩
                obtain ⟨hp189, H⟩ := H
                obtain ⟨r187, hr188⟩ : ∃ r_, r_ = M.laws_markLane r129 r181.1 := ⟨_, rfl⟩
                have H := H r187 hr188
                refine (laws_markLane.con hp189 hr188 (O33.mono (Nat.zero_le _))).mono ?_
                rintro _ w190 ⟨rfl, Q33, hl192, e191⟩
                have O3 := O3.chgS e191 (N33_3).inb
                have O17 := O17.chgS e191 (N33_17).inb
                have O18 := O18.chgS e191 (N18_33).inb
                have O32 := O32.chgS e191 (N32_33).inb
                have O34 := O34.chgS e191 (N33_34).inb
                have O35 := O35.chgS e191 ((N33_35).symm).inb
                have O36 := O36.chgS e191 (N33_36).inb
                have O37 := O37.chgS e191 ((N33_37).symm).inb
                have O38 := O38.chgS e191 ((N33_38).symm).inb
                have hB := Chg.ext hB e191 O33.low
                have O33 := Q33.up O33
                refine ⟨r187.1, rfl, ?_⟩
                refine bcase_mk (fun hc318 => ?_) (fun hc318 => ?_)
                · have H := (bcase_iff.1 H).1 hc318
                  obtain rfl := hr.trans H.symm
                  exact ⟨rfl, hB⟩
                · have H := (bcase_iff.1 H).2 hc318
                  refine ⟨_, (O36.at 0 rfl rfl), ?_⟩
                  refine ⟨_, (O36.at 1 rfl rfl), ?_⟩
                  refine ⟨_, _, _, (O36.at 2 rfl rfl), ?_⟩
                  refine ⟨_, (O17.at 0 rfl rfl), ?_⟩
                  refine ⟨_, (O17.at 1 rfl rfl), ?_⟩
                  refine ⟨_, _, _, (O17.at 2 rfl rfl), ?_⟩
                  obtain ⟨hp195, H⟩ := H
                  obtain ⟨r193, hr194⟩ : ∃ r_, r_ = M.laws_eqLane r140.1 (⟨i33, i34, xs35⟩ : D.Lane) := ⟨_, rfl⟩
                  have H := H r193 hr194
                  refine (laws_eqLane.con hp195 hr194 O35.row O35.le O18.row O18.le).mono ?_
                  rintro _ w196 ⟨rfl, e197⟩
                  have O3 := O3.ext e197
                  have O17 := O17.ext e197
                  have O18 := O18.ext e197
                  have O32 := O32.ext e197
                  have O33 := O33.ext e197
                  have O34 := O34.ext e197
                  have O35 := O35.ext e197
                  have O36 := O36.ext e197
                  have O37 := O37.ext e197
                  have O38 := O38.ext e197
                  have hB := ethen hB e197
                  refine ⟨r193, rfl, ?_⟩
                  refine bcase_mk (fun hc317 => ?_) (fun hc317 => ?_)
                  · have H := (bcase_iff.1 H).1 hc317
                    obtain rfl := hr.trans H.symm
                    exact ⟨rfl, hB⟩
                  · have H := (bcase_iff.1 H).2 hc317
                    refine bcase_mk (fun hc316 => ?_) (fun hc316 => ?_)
                    · have H := (bcase_iff.1 H).1 hc316
                      obtain rfl := hr.trans H.symm
                      exact ⟨rfl, hB⟩
                    · have H := (bcase_iff.1 H).2 hc316
                      refine ⟨_, (O36.at 0 rfl rfl), ?_⟩
                      refine ⟨_, (O36.at 1 rfl rfl), ?_⟩
                      refine ⟨_, _, _, (O36.at 2 rfl rfl), ?_⟩
                      obtain ⟨hp200, H⟩ := H
                      obtain ⟨r198, hr199⟩ : ∃ r_, r_ = M.laws_markLane r140.1 1 := ⟨_, rfl⟩
                      have H := H r198 hr199
                      refine (laws_markLane.con hp200 hr199 (O35.mono (Nat.zero_le _))).mono ?_
                      rintro _ w201 ⟨rfl, Q35, hl203, e202⟩
                      have O3 := O3.chgS e202 (N35_3).inb
                      have O17 := O17.chgS e202 (N35_17).inb
                      have O18 := O18.chgS e202 (N18_35).inb
                      have O32 := O32.chgS e202 (N32_35).inb
                      have O33 := O33.chgS e202 (N33_35).inb
                      have O34 := O34.chgS e202 (N35_34).inb
                      have O36 := O36.chgS e202 (N35_36).inb
                      have O37 := O37.chgS e202 ((N35_37).symm).inb
                      have O38 := O38.chgS e202 ((N35_38).symm).inb
                      have hB := Chg.ext hB e202 O35.low
                      have O35 := Q35.up O35
                      refine ⟨r198.1, rfl, ?_⟩
                      refine ⟨_, (O36.at 0 rfl rfl), ?_⟩
                      refine ⟨_, (O36.at 1 rfl rfl), ?_⟩
                      refine ⟨_, _, _, (O36.at 2 rfl rfl), ?_⟩
                      obtain ⟨hp206, H⟩ := H
                      obtain ⟨r204, hr205⟩ : ∃ r_, r_ = M.laws_heldLane (⟨r140.1.Thread, r140.1.Pc, r198.2⟩ : D.Lane) 1 := ⟨_, rfl⟩
                      have H := H r204 hr205
                      refine (cllArgs (by first | (simp only [List.length_set, hl203]; done) | (simp; done)) (laws_heldLane.con hp206 hr205 O35.row O35.le)).mono ?_
                      rintro _ w207 ⟨rfl, e208⟩
                      have O3 := O3.ext e208
                      have O17 := O17.ext e208
                      have O18 := O18.ext e208
                      have O32 := O32.ext e208
                      have O33 := O33.ext e208
                      have O34 := O34.ext e208
                      have O35 := O35.ext e208
                      have O36 := O36.ext e208
                      have O37 := O37.ext e208
                      have O38 := O38.ext e208
                      have hB := ethen hB e208
                      refine ⟨r204, rfl, ?_⟩
                      refine bcase_mk (fun hc315 => ?_) (fun hc315 => ?_)
                      · have H := (bcase_iff.1 H).1 hc315
                        obtain rfl := hr.trans H.symm
                        exact ⟨rfl, hB⟩
                      · have H := (bcase_iff.1 H).2 hc315
                        refine bcase_mk (fun hc314 => ?_) (fun hc314 => ?_)
                        · have H := (bcase_iff.1 H).1 hc314
                          obtain rfl := hr.trans H.symm
                          exact ⟨rfl, hB⟩
                        · have H := (bcase_iff.1 H).2 hc314
                          obtain ⟨K313, hKK313, H⟩ := joinP_out H
                          refine ⟨fun z_ w_ => ∃ (i209 : Int) (i210 : Int) (xs211 : List Int) (i214 : Int) (g52_ : Nat) (A212 : Option Addr) (c213 : Nat), z_ = ((⟨g52_, 0, none⟩ : Addr), i214, ()) ∧ K313 (i209, i210, xs211, i214, ()) ∧ Ext w w_ ∧ Blk w_ g52_ 49 #[(.int .i64 i209), (.int .i64 i210), (.slice A212 xs211.length c213)] ∧ w.heap.size ≤ g52_ ∧ Own el3 w_ w.heap.size A212 c213 xs211 ∧ Blk w_ g3_ 47 #[(.int .i64 s1.Thread), (.int .i64 s1.Pc), (.slice A1_2 s1.Regs.length c1_2)] ∧ Blk w_ g17_ 49 #[(.int .i64 i33), (.int .i64 i34), (.slice A36 xs35.length c37)] ∧ Own el3 w_ w.heap.size A36 c37 xs35 ∧ Own el68 w_ w.heap.size A127 c128 r181.2 ∧ Own el3 w_ w.heap.size A134 c135 r187.2 ∧ Blk w_ g34_ 49 #[(.int .i64 r129.Thread), (.int .i64 r129.Pc), (.slice A134 r129.Regs.length c135)] ∧ Own el3 w_ w.heap.size A145 c146 r198.2 ∧ Blk w_ g36_ 49 #[(.int .i64 r140.1.Thread), (.int .i64 r140.1.Pc), (.slice A145 r140.1.Regs.length c146)] ∧ Own el68 w_ w.heap.size A161 c162 r156 ∧ g17_ ≠ g52_ ∧ Apart2 A36 A212 ∧ Apart2 A134 A212 ∧ g34_ ≠ g52_ ∧ Apart2 A145 A212 ∧ g36_ ≠ g52_, ?_, ?_⟩
                          · refine ⟨(fun _ => False), ?_⟩
                            refine ⟨_, ⟨(fun h_ => h_), (O3.at 0 rfl rfl)⟩, ?_⟩
                            refine ⟨_, ⟨(fun h_ => h_), (O3.at 1 rfl rfl)⟩, ?_⟩
                            refine ⟨_, _, _, ⟨(fun h_ => h_), (O3.at 2 rfl rfl)⟩, ?_⟩
                            refine And.intro ?_ ?_
                            · have H := H.1
                              have hS218 := Chg.refl (fun _ => False) w207
                              have O3 := O3.ext (Ext.drew _)
                              have O17 := O17.ext (Ext.drew _)
                              have O18 := O18.ext (Ext.drew _)
                              have O32 := O32.ext (Ext.drew _)
                              have O33 := O33.ext (Ext.drew _)
                              have O34 := O34.ext (Ext.drew _)
                              have O35 := O35.ext (Ext.drew _)
                              have O36 := O36.ext (Ext.drew _)
                              have O37 := O37.ext (Ext.drew _)
                              have O38 := O38.ext (Ext.drew _)
                              have hB := ethen hB (Ext.drew _)
                              have hS218 := hS218.then (Ext.drew _)
                              obtain ⟨hp221, H⟩ := H
                              obtain ⟨r219, hr220⟩ : ∃ r_, r_ = M.laws_toInsS xs0 := ⟨_, rfl⟩
                              have H := H r219 hr220
                              refine (laws_toInsS.con hp221 hr220 (R0.ext hB) hc0).mono ?_
                              rintro _ w222 ⟨A224, c225, rfl, P54, e223⟩
                              have N54_3 := P54.apart_old O3.lt
                              have N54_17 := P54.apart_old O17.lt
                              have N18_54 := Own.apart2_new O18 P54 (Nat.le_refl _)
                              have N32_54 := Own.apart2_new O32 P54 (Nat.le_refl _)
                              have N33_54 := Own.apart2_new O33 P54 (Nat.le_refl _)
                              have N54_34 := P54.apart_old O34.lt
                              have N35_54 := Own.apart2_new O35 P54 (Nat.le_refl _)
                              have N54_36 := P54.apart_old O36.lt
                              have N37_54 := Own.apart2_new O37 P54 (Nat.le_refl _)
                              have N38_54 := Own.apart2_new O38 P54 (Nat.le_refl _)
                              have O3 := O3.ext e223
                              have O17 := O17.ext e223
                              have O18 := O18.ext e223
                              have O32 := O32.ext e223
                              have O33 := O33.ext e223
                              have O34 := O34.ext e223
                              have O35 := O35.ext e223
                              have O36 := O36.ext e223
                              have O37 := O37.ext e223
                              have O38 := O38.ext e223
                              have LB54 := (P54.mono hS218.size).low
                              have O54 := P54.mono hB.size
                              have hB := ethen hB e223
                              have hS218 := hS218.then e223
                              refine ⟨A224, r219.length, c225, rfl, ?_⟩
                              refine ⟨sameBut_chg hS218, ?_⟩
                              refine And.intro ?_ ?_
                              · have H := H.1
                                obtain ⟨hp228, H⟩ := H
                                obtain ⟨r226, hr227⟩ : ∃ r_, r_ = M.laws_toLane s1 := ⟨_, rfl⟩
                                have H := H r226 hr227
                                refine (laws_toLane.con hp228 hr227 (R1_2.ext hB) hc1_2).mono ?_
                                rintro _ w229 ⟨A231, c232, rfl, P55, e230⟩
                                have N55_3 := P55.apart_old O3.lt
                                have N55_17 := P55.apart_old O17.lt
                                have N18_55 := Own.apart2_new O18 P55 (Nat.le_refl _)
                                have N32_55 := Own.apart2_new O32 P55 (Nat.le_refl _)
                                have N33_55 := Own.apart2_new O33 P55 (Nat.le_refl _)
                                have N55_34 := P55.apart_old O34.lt
                                have N35_55 := Own.apart2_new O35 P55 (Nat.le_refl _)
                                have N55_36 := P55.apart_old O36.lt
                                have N37_55 := Own.apart2_new O37 P55 (Nat.le_refl _)
                                have N38_55 := Own.apart2_new O38 P55 (Nat.le_refl _)
                                have N54_55 := Own.apart2_new O54 P55 (Nat.le_refl _)
                                have O3 := O3.ext e230
                                have O17 := O17.ext e230
                                have O18 := O18.ext e230
                                have O32 := O32.ext e230
                                have O33 := O33.ext e230
                                have O34 := O34.ext e230
                                have O35 := O35.ext e230
                                have O36 := O36.ext e230
                                have O37 := O37.ext e230
                                have O38 := O38.ext e230
                                have O54 := O54.ext e230
                                have LB55 := (P55.mono hS218.size).low
                                have O55 := P55.mono hB.size
                                have hB := ethen hB e230
                                have hS218 := hS218.then e230
                                refine ⟨r226.Thread, trivial, ?_⟩
                                refine ⟨r226.Pc, trivial, ?_⟩
                                refine ⟨A231, r226.Regs.length, c232, trivial, ?_⟩
                                refine ⟨rfl, ?_⟩
                                refine ⟨sameBut_chg hS218, ?_⟩
                                refine And.intro ?_ ?_
                                · have H := H.1
                                  obtain ⟨hp235, H⟩ := H
                                  obtain ⟨r233, hr234⟩ : ∃ r_, r_ = M.impl_RunLane r219 r226 x2 := ⟨_, rfl⟩
                                  have H := H r233 hr234
                                  refine (impl_RunLane.con hp235 hr234 O54.row O54.le O55.row O55.le).mono ?_
                                  rintro _ w236 ⟨A238, c239, rfl, P56, e237⟩
                                  have N56_3 := P56.apart_old O3.lt
                                  have N56_17 := P56.apart_old O17.lt
                                  have N18_56 := Own.apart2_new O18 P56 (Nat.le_refl _)
                                  have N32_56 := Own.apart2_new O32 P56 (Nat.le_refl _)
                                  have N33_56 := Own.apart2_new O33 P56 (Nat.le_refl _)
                                  have N56_34 := P56.apart_old O34.lt
                                  have N35_56 := Own.apart2_new O35 P56 (Nat.le_refl _)
                                  have N56_36 := P56.apart_old O36.lt
                                  have N37_56 := Own.apart2_new O37 P56 (Nat.le_refl _)
                                  have N38_56 := Own.apart2_new O38 P56 (Nat.le_refl _)
                                  have N54_56 := Own.apart2_new O54 P56 (Nat.le_refl _)
                                  have N55_56 := Own.apart2_new O55 P56 (Nat.le_refl _)
                                  have O3 := O3.ext e237
                                  have O17 := O17.ext e237
                                  have O18 := O18.ext e237
                                  have O32 := O32.ext e237
                                  have O33 := O33.ext e237
                                  have O34 := O34.ext e237
                                  have O35 := O35.ext e237
                                  have O36 := O36.ext e237
                                  have O37 := O37.ext e237
                                  have O38 := O38.ext e237
                                  have O54 := O54.ext e237
                                  have O55 := O55.ext e237
                                  have LB56 := (P56.mono hS218.size).low
                                  have O56 := P56.mono hB.size
                                  have hB := ethen hB e237
                                  have hS218 := hS218.then e237
                                  refine ⟨(.agg #[(.int .i64 r233.1.Thread), (.int .i64 r233.1.Pc), (.slice A238 r233.1.Regs.length c239)]), ?_⟩
                                  refine ⟨r233.1.Thread, trivial, ?_⟩
                                  refine ⟨r233.1.Pc, trivial, ?_⟩
                                  refine ⟨A238, r233.1.Regs.length, c239, trivial, ?_⟩
                                  refine ⟨rfl, ?_⟩
                                  refine ⟨(.int .i64 r233.2), ?_⟩
                                  refine ⟨r233.2, rfl, ?_⟩
                                  refine ⟨rfl, ?_⟩
                                  refine ⟨sameBut_chg hS218, ?_⟩
                                  refine newBlk (fun g57_ w240 L57 P57 e241 => ?_)
                                  have N3_57 := O3.ne L57
                                  have N17_57 := O17.ne L57
                                  have N18_57 := O18.apart_new L57
                                  have N32_57 := O32.apart_new L57
                                  have N33_57 := O33.apart_new L57
                                  have N34_57 := O34.ne L57
                                  have N35_57 := O35.apart_new L57
                                  have N36_57 := O36.ne L57
                                  have N37_57 := O37.apart_new L57
                                  have N38_57 := O38.apart_new L57
                                  have N54_57 := O54.apart_new L57
                                  have N55_57 := O55.apart_new L57
                                  have N56_57 := O56.apart_new L57
                                  have O3 := O3.ext e241
                                  have O17 := O17.ext e241
                                  have O18 := O18.ext e241
                                  have O32 := O32.ext e241
                                  have O33 := O33.ext e241
                                  have O34 := O34.ext e241
                                  have O35 := O35.ext e241
                                  have O36 := O36.ext e241
                                  have O37 := O37.ext e241
                                  have O38 := O38.ext e241
                                  have O54 := O54.ext e241
                                  have O55 := O55.ext e241
                                  have O56 := O56.ext e241
                                  have O57 := P57
                                  have LB57 := Nat.le_trans hS218.size L57
                                  have L57 := Nat.le_trans hB.size L57
                                  have hB := ethen hB e241
                                  have hS218 := hS218.then e241
                                  refine ⟨sameBut_chg hS218, ?_⟩
                                  refine stBlk O57 (o := 0) (cs' := #[(.int .i64 r233.1.Thread), (.int .i64 r233.1.Pc), (.slice A238 r233.1.Regs.length c239)]) rfl rfl (Nat.le_of_ble_eq_true rfl) rfl (fun w242 P57 e243 => ?_)
                                  have O3_ := O3.chg e243 N3_57
                                  have O17_ := O17.chg e243 N17_57
                                  have O18_ := O18.chg e243 N18_57
                                  have O32_ := O32.chg e243 N32_57
                                  have O33_ := O33.chg e243 N33_57
                                  have O34_ := O34.chg e243 N34_57
                                  have O35_ := O35.chg e243 N35_57
                                  have O36_ := O36.chg e243 N36_57
                                  have O37_ := O37.chg e243 N37_57
                                  have O38_ := O38.chg e243 N38_57
                                  have O54_ := O54.chg e243 N54_57
                                  have O55_ := O55.chg e243 N55_57
                                  have O56_ := O56.chg e243 N56_57
                                  have O3 := O3_
                                  have O17 := O17_
                                  have O18 := O18_
                                  have O32 := O32_
                                  have O33 := O33_
                                  have O34 := O34_
                                  have O35 := O35_
                                  have O36 := O36_
                                  have O37 := O37_
                                  have O38 := O38_
                                  have O54 := O54_
                                  have O55 := O55_
                                  have O56 := O56_
                                  have hB := echg hB e243 L57
                                  have hS218 := hS218.chgb e243 (Or.inl LB57)
                                  have O57 := P57
                                  refine ⟨sameBut_chg hS218, ?_⟩
                                  exact ⟨r233.1.Thread, r233.1.Pc, r233.1.Regs, r233.2, g57_, A238, c239, rfl, H, hB, O57, L57, O56, O3, O17, O18, O32, O33, O34, O35, O36, O37, N17_57, N18_56, N33_56, N34_57, N35_56, N36_57⟩
                                · refine And.intro ?_ ?_
                                  · have H := H.2.1
                                    refine newBlk (fun g58_ w244 L58 P58 e245 => ?_)
                                    have N3_58 := O3.ne L58
                                    have N17_58 := O17.ne L58
                                    have N18_58 := O18.apart_new L58
                                    have N32_58 := O32.apart_new L58
                                    have N33_58 := O33.apart_new L58
                                    have N34_58 := O34.ne L58
                                    have N35_58 := O35.apart_new L58
                                    have N36_58 := O36.ne L58
                                    have N37_58 := O37.apart_new L58
                                    have N38_58 := O38.apart_new L58
                                    have N54_58 := O54.apart_new L58
                                    have N55_58 := O55.apart_new L58
                                    have O3 := O3.ext e245
                                    have O17 := O17.ext e245
                                    have O18 := O18.ext e245
                                    have O32 := O32.ext e245
                                    have O33 := O33.ext e245
                                    have O34 := O34.ext e245
                                    have O35 := O35.ext e245
                                    have O36 := O36.ext e245
                                    have O37 := O37.ext e245
                                    have O38 := O38.ext e245
                                    have O54 := O54.ext e245
                                    have O55 := O55.ext e245
                                    have O58 := P58
                                    have LB58 := Nat.le_trans hS218.size L58
                                    have L58 := Nat.le_trans hB.size L58
                                    have hB := ethen hB e245
                                    have hS218 := hS218.then e245
                                    refine ⟨sameBut_chg hS218, ?_⟩
                                    obtain ⟨hp248, H⟩ := H
                                    obtain ⟨r246, hr247⟩ : ∃ r_, r_ = M.impl_RunLane r219 r226 x2 := ⟨_, rfl⟩
                                    have H := H r246 hr247
                                    refine (impl_RunLane.con hp248 hr247 O54.row O54.le O55.row O55.le).mono ?_
                                    rintro _ w249 ⟨A251, c252, rfl, P59, e250⟩
                                    have N59_3 := P59.apart_old O3.lt
                                    have N59_17 := P59.apart_old O17.lt
                                    have N18_59 := Own.apart2_new O18 P59 (Nat.le_refl _)
                                    have N32_59 := Own.apart2_new O32 P59 (Nat.le_refl _)
                                    have N33_59 := Own.apart2_new O33 P59 (Nat.le_refl _)
                                    have N59_34 := P59.apart_old O34.lt
                                    have N35_59 := Own.apart2_new O35 P59 (Nat.le_refl _)
                                    have N59_36 := P59.apart_old O36.lt
                                    have N37_59 := Own.apart2_new O37 P59 (Nat.le_refl _)
                                    have N38_59 := Own.apart2_new O38 P59 (Nat.le_refl _)
                                    have N54_59 := Own.apart2_new O54 P59 (Nat.le_refl _)
                                    have N55_59 := Own.apart2_new O55 P59 (Nat.le_refl _)
                                    have N59_58 := P59.apart_old O58.lt
                                    have O3 := O3.ext e250
                                    have O17 := O17.ext e250
                                    have O18 := O18.ext e250
                                    have O32 := O32.ext e250
                                    have O33 := O33.ext e250
                                    have O34 := O34.ext e250
                                    have O35 := O35.ext e250
                                    have O36 := O36.ext e250
                                    have O37 := O37.ext e250
                                    have O38 := O38.ext e250
                                    have O54 := O54.ext e250
                                    have O55 := O55.ext e250
                                    have O58 := O58.ext e250
                                    have LB59 := (P59.mono hS218.size).low
                                    have O59 := P59.mono hB.size
                                    have hB := ethen hB e250
                                    have hS218 := hS218.then e250
                                    refine ⟨(.agg #[(.int .i64 r246.1.Thread), (.int .i64 r246.1.Pc), (.slice A251 r246.1.Regs.length c252)]), ?_⟩
                                    refine ⟨r246.1.Thread, trivial, ?_⟩
                                    refine ⟨r246.1.Pc, trivial, ?_⟩
                                    refine ⟨A251, r246.1.Regs.length, c252, trivial, ?_⟩
                                    refine ⟨rfl, ?_⟩
                                    refine ⟨(.int .i64 r246.2), ?_⟩
                                    refine ⟨r246.2, rfl, ?_⟩
                                    refine ⟨rfl, ?_⟩
                                    refine ⟨sameBut_chg hS218, ?_⟩
                                    refine stBlk O58 (o := 0) (cs' := #[(.int .i64 r246.1.Thread), (.int .i64 r246.1.Pc), (.slice A251 r246.1.Regs.length c252)]) rfl rfl (Nat.le_of_ble_eq_true rfl) rfl (fun w253 P58 e254 => ?_)
                                    have O3_ := O3.chg e254 N3_58
                                    have O17_ := O17.chg e254 N17_58
                                    have O18_ := O18.chg e254 N18_58
                                    have O32_ := O32.chg e254 N32_58
                                    have O33_ := O33.chg e254 N33_58
                                    have O34_ := O34.chg e254 N34_58
                                    have O35_ := O35.chg e254 N35_58
                                    have O36_ := O36.chg e254 N36_58
                                    have O37_ := O37.chg e254 N37_58
                                    have O38_ := O38.chg e254 N38_58
                                    have O54_ := O54.chg e254 N54_58
                                    have O55_ := O55.chg e254 N55_58
                                    have O59_ := O59.chg e254 N59_58
                                    have O3 := O3_
                                    have O17 := O17_
                                    have O18 := O18_
                                    have O32 := O32_
                                    have O33 := O33_
                                    have O34 := O34_
                                    have O35 := O35_
                                    have O36 := O36_
                                    have O37 := O37_
                                    have O38 := O38_
                                    have O54 := O54_
                                    have O55 := O55_
                                    have O59 := O59_
                                    have hB := echg hB e254 L58
                                    have hS218 := hS218.chgb e254 (Or.inl LB58)
                                    have O58 := P58
                                    refine ⟨sameBut_chg hS218, ?_⟩
                                    exact ⟨r246.1.Thread, r246.1.Pc, r246.1.Regs, r246.2, g58_, A251, c252, rfl, H, hB, O58, L58, O59, O3, O17, O18, O32, O33, O34, O35, O36, O37, N17_58, N18_59, N33_59, N34_58, N35_59, N36_58⟩
                                  · exact trivial
                              · refine And.intro ?_ ?_
                                · have H := H.2.1
                                  refine newBlk (fun g60_ w255 L60 P60 e256 => ?_)
                                  have N3_60 := O3.ne L60
                                  have N17_60 := O17.ne L60
                                  have N18_60 := O18.apart_new L60
                                  have N32_60 := O32.apart_new L60
                                  have N33_60 := O33.apart_new L60
                                  have N34_60 := O34.ne L60
                                  have N35_60 := O35.apart_new L60
                                  have N36_60 := O36.ne L60
                                  have N37_60 := O37.apart_new L60
                                  have N38_60 := O38.apart_new L60
                                  have N54_60 := O54.apart_new L60
                                  have O3 := O3.ext e256
                                  have O17 := O17.ext e256
                                  have O18 := O18.ext e256
                                  have O32 := O32.ext e256
                                  have O33 := O33.ext e256
                                  have O34 := O34.ext e256
                                  have O35 := O35.ext e256
                                  have O36 := O36.ext e256
                                  have O37 := O37.ext e256
                                  have O38 := O38.ext e256
                                  have O54 := O54.ext e256
                                  have O60 := P60
                                  have LB60 := Nat.le_trans hS218.size L60
                                  have L60 := Nat.le_trans hB.size L60
                                  have hB := ethen hB e256
                                  have hS218 := hS218.then e256
                                  refine ⟨sameBut_chg hS218, ?_⟩
                                  obtain ⟨hp259, H⟩ := H
                                  obtain ⟨r257, hr258⟩ : ∃ r_, r_ = M.laws_toLane s1 := ⟨_, rfl⟩
                                  have H := H r257 hr258
                                  refine (laws_toLane.con hp259 hr258 (R1_2.ext hB) hc1_2).mono ?_
                                  rintro _ w260 ⟨A262, c263, rfl, P61, e261⟩
                                  have N61_3 := P61.apart_old O3.lt
                                  have N61_17 := P61.apart_old O17.lt
                                  have N18_61 := Own.apart2_new O18 P61 (Nat.le_refl _)
                                  have N32_61 := Own.apart2_new O32 P61 (Nat.le_refl _)
                                  have N33_61 := Own.apart2_new O33 P61 (Nat.le_refl _)
                                  have N61_34 := P61.apart_old O34.lt
                                  have N35_61 := Own.apart2_new O35 P61 (Nat.le_refl _)
                                  have N61_36 := P61.apart_old O36.lt
                                  have N37_61 := Own.apart2_new O37 P61 (Nat.le_refl _)
                                  have N38_61 := Own.apart2_new O38 P61 (Nat.le_refl _)
                                  have N54_61 := Own.apart2_new O54 P61 (Nat.le_refl _)
                                  have N61_60 := P61.apart_old O60.lt
                                  have O3 := O3.ext e261
                                  have O17 := O17.ext e261
                                  have O18 := O18.ext e261
                                  have O32 := O32.ext e261
                                  have O33 := O33.ext e261
                                  have O34 := O34.ext e261
                                  have O35 := O35.ext e261
                                  have O36 := O36.ext e261
                                  have O37 := O37.ext e261
                                  have O38 := O38.ext e261
                                  have O54 := O54.ext e261
                                  have O60 := O60.ext e261
                                  have LB61 := (P61.mono hS218.size).low
                                  have O61 := P61.mono hB.size
                                  have hB := ethen hB e261
                                  have hS218 := hS218.then e261
                                  refine ⟨r257.Thread, trivial, ?_⟩
                                  refine ⟨r257.Pc, trivial, ?_⟩
                                  refine ⟨A262, r257.Regs.length, c263, trivial, ?_⟩
                                  refine ⟨rfl, ?_⟩
                                  refine ⟨sameBut_chg hS218, ?_⟩
                                  obtain ⟨hp266, H⟩ := H
                                  obtain ⟨r264, hr265⟩ : ∃ r_, r_ = M.impl_RunLane r219 r257 x2 := ⟨_, rfl⟩
                                  have H := H r264 hr265
                                  refine (impl_RunLane.con hp266 hr265 O54.row O54.le O61.row O61.le).mono ?_
                                  rintro _ w267 ⟨A269, c270, rfl, P62, e268⟩
                                  have N62_3 := P62.apart_old O3.lt
                                  have N62_17 := P62.apart_old O17.lt
                                  have N18_62 := Own.apart2_new O18 P62 (Nat.le_refl _)
                                  have N32_62 := Own.apart2_new O32 P62 (Nat.le_refl _)
                                  have N33_62 := Own.apart2_new O33 P62 (Nat.le_refl _)
                                  have N62_34 := P62.apart_old O34.lt
                                  have N35_62 := Own.apart2_new O35 P62 (Nat.le_refl _)
                                  have N62_36 := P62.apart_old O36.lt
                                  have N37_62 := Own.apart2_new O37 P62 (Nat.le_refl _)
                                  have N38_62 := Own.apart2_new O38 P62 (Nat.le_refl _)
                                  have N54_62 := Own.apart2_new O54 P62 (Nat.le_refl _)
                                  have N62_60 := P62.apart_old O60.lt
                                  have N61_62 := Own.apart2_new O61 P62 (Nat.le_refl _)
                                  have O3 := O3.ext e268
                                  have O17 := O17.ext e268
                                  have O18 := O18.ext e268
                                  have O32 := O32.ext e268
                                  have O33 := O33.ext e268
                                  have O34 := O34.ext e268
                                  have O35 := O35.ext e268
                                  have O36 := O36.ext e268
                                  have O37 := O37.ext e268
                                  have O38 := O38.ext e268
                                  have O54 := O54.ext e268
                                  have O60 := O60.ext e268
                                  have O61 := O61.ext e268
                                  have LB62 := (P62.mono hS218.size).low
                                  have O62 := P62.mono hB.size
                                  have hB := ethen hB e268
                                  have hS218 := hS218.then e268
                                  refine ⟨(.agg #[(.int .i64 r264.1.Thread), (.int .i64 r264.1.Pc), (.slice A269 r264.1.Regs.length c270)]), ?_⟩
                                  refine ⟨r264.1.Thread, trivial, ?_⟩
                                  refine ⟨r264.1.Pc, trivial, ?_⟩
                                  refine ⟨A269, r264.1.Regs.length, c270, trivial, ?_⟩
                                  refine ⟨rfl, ?_⟩
                                  refine ⟨(.int .i64 r264.2), ?_⟩
                                  refine ⟨r264.2, rfl, ?_⟩
                                  refine ⟨rfl, ?_⟩
                                  refine ⟨sameBut_chg hS218, ?_⟩
                                  refine stBlk O60 (o := 0) (cs' := #[(.int .i64 r264.1.Thread), (.int .i64 r264.1.Pc), (.slice A269 r264.1.Regs.length c270)]) rfl rfl (Nat.le_of_ble_eq_true rfl) rfl (fun w271 P60 e272 => ?_)
                                  have O3_ := O3.chg e272 N3_60
                                  have O17_ := O17.chg e272 N17_60
                                  have O18_ := O18.chg e272 N18_60
                                  have O32_ := O32.chg e272 N32_60
                                  have O33_ := O33.chg e272 N33_60
                                  have O34_ := O34.chg e272 N34_60
                                  have O35_ := O35.chg e272 N35_60
                                  have O36_ := O36.chg e272 N36_60
                                  have O37_ := O37.chg e272 N37_60
                                  have O38_ := O38.chg e272 N38_60
                                  have O54_ := O54.chg e272 N54_60
                                  have O61_ := O61.chg e272 N61_60
                                  have O62_ := O62.chg e272 N62_60
                                  have O3 := O3_
                                  have O17 := O17_
                                  have O18 := O18_
                                  have O32 := O32_
                                  have O33 := O33_
                                  have O34 := O34_
                                  have O35 := O35_
                                  have O36 := O36_
                                  have O37 := O37_
                                  have O38 := O38_
                                  have O54 := O54_
                                  have O61 := O61_
                                  have O62 := O62_
                                  have hB := echg hB e272 L60
                                  have hS218 := hS218.chgb e272 (Or.inl LB60)
                                  have O60 := P60
                                  refine ⟨sameBut_chg hS218, ?_⟩
                                  exact ⟨r264.1.Thread, r264.1.Pc, r264.1.Regs, r264.2, g60_, A269, c270, rfl, H, hB, O60, L60, O62, O3, O17, O18, O32, O33, O34, O35, O36, O37, N17_60, N18_62, N33_62, N34_60, N35_62, N36_60⟩
                                · exact trivial
                            · refine And.intro ?_ ?_
                              · have H := H.2.1
                                have hS218 := Chg.refl (fun _ => False) w207
                                have O3 := O3.ext (Ext.drew _)
                                have O17 := O17.ext (Ext.drew _)
                                have O18 := O18.ext (Ext.drew _)
                                have O32 := O32.ext (Ext.drew _)
                                have O33 := O33.ext (Ext.drew _)
                                have O34 := O34.ext (Ext.drew _)
                                have O35 := O35.ext (Ext.drew _)
                                have O36 := O36.ext (Ext.drew _)
                                have O37 := O37.ext (Ext.drew _)
                                have O38 := O38.ext (Ext.drew _)
                                have hB := ethen hB (Ext.drew _)
                                have hS218 := hS218.then (Ext.drew _)
                                refine newBlk (fun g63_ w273 L63 P63 e274 => ?_)
                                have N3_63 := O3.ne L63
                                have N17_63 := O17.ne L63
                                have N18_63 := O18.apart_new L63
                                have N32_63 := O32.apart_new L63
                                have N33_63 := O33.apart_new L63
                                have N34_63 := O34.ne L63
                                have N35_63 := O35.apart_new L63
                                have N36_63 := O36.ne L63
                                have N37_63 := O37.apart_new L63
                                have N38_63 := O38.apart_new L63
                                have O3 := O3.ext e274
                                have O17 := O17.ext e274
                                have O18 := O18.ext e274
                                have O32 := O32.ext e274
                                have O33 := O33.ext e274
                                have O34 := O34.ext e274
                                have O35 := O35.ext e274
                                have O36 := O36.ext e274
                                have O37 := O37.ext e274
                                have O38 := O38.ext e274
                                have O63 := P63
                                have LB63 := Nat.le_trans hS218.size L63
                                have L63 := Nat.le_trans hB.size L63
                                have hB := ethen hB e274
                                have hS218 := hS218.then e274
                                refine ⟨sameBut_chg hS218, ?_⟩
                                obtain ⟨hp277, H⟩ := H
                                obtain ⟨r275, hr276⟩ : ∃ r_, r_ = M.laws_toInsS xs0 := ⟨_, rfl⟩
                                have H := H r275 hr276
                                refine (laws_toInsS.con hp277 hr276 (R0.ext hB) hc0).mono ?_
                                rintro _ w278 ⟨A280, c281, rfl, P64, e279⟩
                                have N64_3 := P64.apart_old O3.lt
                                have N64_17 := P64.apart_old O17.lt
                                have N18_64 := Own.apart2_new O18 P64 (Nat.le_refl _)
                                have N32_64 := Own.apart2_new O32 P64 (Nat.le_refl _)
                                have N33_64 := Own.apart2_new O33 P64 (Nat.le_refl _)
                                have N64_34 := P64.apart_old O34.lt
                                have N35_64 := Own.apart2_new O35 P64 (Nat.le_refl _)
                                have N64_36 := P64.apart_old O36.lt
                                have N37_64 := Own.apart2_new O37 P64 (Nat.le_refl _)
                                have N38_64 := Own.apart2_new O38 P64 (Nat.le_refl _)
                                have N64_63 := P64.apart_old O63.lt
                                have O3 := O3.ext e279
                                have O17 := O17.ext e279
                                have O18 := O18.ext e279
                                have O32 := O32.ext e279
                                have O33 := O33.ext e279
                                have O34 := O34.ext e279
                                have O35 := O35.ext e279
                                have O36 := O36.ext e279
                                have O37 := O37.ext e279
                                have O38 := O38.ext e279
                                have O63 := O63.ext e279
                                have LB64 := (P64.mono hS218.size).low
                                have O64 := P64.mono hB.size
                                have hB := ethen hB e279
                                have hS218 := hS218.then e279
                                refine ⟨A280, r275.length, c281, rfl, ?_⟩
                                refine ⟨sameBut_chg hS218, ?_⟩
                                obtain ⟨hp284, H⟩ := H
                                obtain ⟨r282, hr283⟩ : ∃ r_, r_ = M.laws_toLane s1 := ⟨_, rfl⟩
                                have H := H r282 hr283
                                refine (laws_toLane.con hp284 hr283 (R1_2.ext hB) hc1_2).mono ?_
                                rintro _ w285 ⟨A287, c288, rfl, P65, e286⟩
                                have N65_3 := P65.apart_old O3.lt
                                have N65_17 := P65.apart_old O17.lt
                                have N18_65 := Own.apart2_new O18 P65 (Nat.le_refl _)
                                have N32_65 := Own.apart2_new O32 P65 (Nat.le_refl _)
                                have N33_65 := Own.apart2_new O33 P65 (Nat.le_refl _)
                                have N65_34 := P65.apart_old O34.lt
                                have N35_65 := Own.apart2_new O35 P65 (Nat.le_refl _)
                                have N65_36 := P65.apart_old O36.lt
                                have N37_65 := Own.apart2_new O37 P65 (Nat.le_refl _)
                                have N38_65 := Own.apart2_new O38 P65 (Nat.le_refl _)
                                have N65_63 := P65.apart_old O63.lt
                                have N64_65 := Own.apart2_new O64 P65 (Nat.le_refl _)
                                have O3 := O3.ext e286
                                have O17 := O17.ext e286
                                have O18 := O18.ext e286
                                have O32 := O32.ext e286
                                have O33 := O33.ext e286
                                have O34 := O34.ext e286
                                have O35 := O35.ext e286
                                have O36 := O36.ext e286
                                have O37 := O37.ext e286
                                have O38 := O38.ext e286
                                have O63 := O63.ext e286
                                have O64 := O64.ext e286
                                have LB65 := (P65.mono hS218.size).low
                                have O65 := P65.mono hB.size
                                have hB := ethen hB e286
                                have hS218 := hS218.then e286
                                refine ⟨r282.Thread, trivial, ?_⟩
                                refine ⟨r282.Pc, trivial, ?_⟩
                                refine ⟨A287, r282.Regs.length, c288, trivial, ?_⟩
                                refine ⟨rfl, ?_⟩
                                refine ⟨sameBut_chg hS218, ?_⟩
                                obtain ⟨hp291, H⟩ := H
                                obtain ⟨r289, hr290⟩ : ∃ r_, r_ = M.impl_RunLane r275 r282 x2 := ⟨_, rfl⟩
                                have H := H r289 hr290
                                refine (impl_RunLane.con hp291 hr290 O64.row O64.le O65.row O65.le).mono ?_
                                rintro _ w292 ⟨A294, c295, rfl, P66, e293⟩
                                have N66_3 := P66.apart_old O3.lt
                                have N66_17 := P66.apart_old O17.lt
                                have N18_66 := Own.apart2_new O18 P66 (Nat.le_refl _)
                                have N32_66 := Own.apart2_new O32 P66 (Nat.le_refl _)
                                have N33_66 := Own.apart2_new O33 P66 (Nat.le_refl _)
                                have N66_34 := P66.apart_old O34.lt
                                have N35_66 := Own.apart2_new O35 P66 (Nat.le_refl _)
                                have N66_36 := P66.apart_old O36.lt
                                have N37_66 := Own.apart2_new O37 P66 (Nat.le_refl _)
                                have N38_66 := Own.apart2_new O38 P66 (Nat.le_refl _)
                                have N66_63 := P66.apart_old O63.lt
                                have N64_66 := Own.apart2_new O64 P66 (Nat.le_refl _)
                                have N65_66 := Own.apart2_new O65 P66 (Nat.le_refl _)
                                have O3 := O3.ext e293
                                have O17 := O17.ext e293
                                have O18 := O18.ext e293
                                have O32 := O32.ext e293
                                have O33 := O33.ext e293
                                have O34 := O34.ext e293
                                have O35 := O35.ext e293
                                have O36 := O36.ext e293
                                have O37 := O37.ext e293
                                have O38 := O38.ext e293
                                have O63 := O63.ext e293
                                have O64 := O64.ext e293
                                have O65 := O65.ext e293
                                have LB66 := (P66.mono hS218.size).low
                                have O66 := P66.mono hB.size
                                have hB := ethen hB e293
                                have hS218 := hS218.then e293
                                refine ⟨(.agg #[(.int .i64 r289.1.Thread), (.int .i64 r289.1.Pc), (.slice A294 r289.1.Regs.length c295)]), ?_⟩
                                refine ⟨r289.1.Thread, trivial, ?_⟩
                                refine ⟨r289.1.Pc, trivial, ?_⟩
                                refine ⟨A294, r289.1.Regs.length, c295, trivial, ?_⟩
                                refine ⟨rfl, ?_⟩
                                refine ⟨(.int .i64 r289.2), ?_⟩
                                refine ⟨r289.2, rfl, ?_⟩
                                refine ⟨rfl, ?_⟩
                                refine ⟨sameBut_chg hS218, ?_⟩
                                refine stBlk O63 (o := 0) (cs' := #[(.int .i64 r289.1.Thread), (.int .i64 r289.1.Pc), (.slice A294 r289.1.Regs.length c295)]) rfl rfl (Nat.le_of_ble_eq_true rfl) rfl (fun w296 P63 e297 => ?_)
                                have O3_ := O3.chg e297 N3_63
                                have O17_ := O17.chg e297 N17_63
                                have O18_ := O18.chg e297 N18_63
                                have O32_ := O32.chg e297 N32_63
                                have O33_ := O33.chg e297 N33_63
                                have O34_ := O34.chg e297 N34_63
                                have O35_ := O35.chg e297 N35_63
                                have O36_ := O36.chg e297 N36_63
                                have O37_ := O37.chg e297 N37_63
                                have O38_ := O38.chg e297 N38_63
                                have O64_ := O64.chg e297 N64_63
                                have O65_ := O65.chg e297 N65_63
                                have O66_ := O66.chg e297 N66_63
                                have O3 := O3_
                                have O17 := O17_
                                have O18 := O18_
                                have O32 := O32_
                                have O33 := O33_
                                have O34 := O34_
                                have O35 := O35_
                                have O36 := O36_
                                have O37 := O37_
                                have O38 := O38_
                                have O64 := O64_
                                have O65 := O65_
                                have O66 := O66_
                                have hB := echg hB e297 L63
                                have hS218 := hS218.chgb e297 (Or.inl LB63)
                                have O63 := P63
                                refine ⟨sameBut_chg hS218, ?_⟩
                                exact ⟨r289.1.Thread, r289.1.Pc, r289.1.Regs, r289.2, g63_, A294, c295, rfl, H, hB, O63, L63, O66, O3, O17, O18, O32, O33, O34, O35, O36, O37, N17_63, N18_66, N33_66, N34_63, N35_66, N36_63⟩
                              · exact trivial
                          · rintro _ w216 ⟨i209, i210, xs211, i214, g52_, A212, c213, rfl, H, hB, O52, L52, O53, O3, O17, O18, O32, O33, O34, O35, O36, O37, N17_52, N18_53, N33_53, N34_52, N35_53, N36_52⟩
                            have H := hKK313 _ H
                            dsimp only at H ⊢
                            refine ⟨_, (O52.at 0 rfl rfl), ?_⟩
                            refine ⟨_, (O52.at 1 rfl rfl), ?_⟩
                            refine ⟨_, _, _, (O52.at 2 rfl rfl), ?_⟩
                            refine ⟨_, (O17.at 0 rfl rfl), ?_⟩
                            refine ⟨_, (O17.at 1 rfl rfl), ?_⟩
                            refine ⟨_, _, _, (O17.at 2 rfl rfl), ?_⟩
                            obtain ⟨hp300, H⟩ := H
                            obtain ⟨r298, hr299⟩ : ∃ r_, r_ = M.laws_eqLane (⟨i209, i210, xs211⟩ : D.Lane) (⟨i33, i34, xs35⟩ : D.Lane) := ⟨_, rfl⟩
                            have H := H r298 hr299
                            refine (laws_eqLane.con hp300 hr299 O53.row O53.le O18.row O18.le).mono ?_
                            rintro _ w301 ⟨rfl, e302⟩
                            have O3 := O3.ext e302
                            have O17 := O17.ext e302
                            have O18 := O18.ext e302
                            have O32 := O32.ext e302
                            have O33 := O33.ext e302
                            have O34 := O34.ext e302
                            have O35 := O35.ext e302
                            have O36 := O36.ext e302
                            have O37 := O37.ext e302
                            have O52 := O52.ext e302
                            have O53 := O53.ext e302
                            have hB := ethen hB e302
                            refine ⟨r298, rfl, ?_⟩
                            refine bcase_mk (fun hc311 => ?_) (fun hc311 => ?_)
                            · have H := (bcase_iff.1 H).1 hc311
                              obtain rfl := hr.trans H.symm
                              exact ⟨rfl, hB⟩
                            · have H := (bcase_iff.1 H).2 hc311
                              refine bcase_mk (fun hc310 => ?_) (fun hc310 => ?_)
                              · have H := (bcase_iff.1 H).1 hc310
                                obtain rfl := hr.trans H.symm
                                exact ⟨rfl, hB⟩
                              · have H := (bcase_iff.1 H).2 hc310
                                refine ⟨_, (O36.at 0 rfl rfl), ?_⟩
                                refine ⟨_, (O36.at 1 rfl rfl), ?_⟩
                                refine ⟨_, _, _, (O36.at 2 rfl rfl), ?_⟩
                                obtain ⟨hp305, H⟩ := H
                                obtain ⟨r303, hr304⟩ : ∃ r_, r_ = M.laws_heldLane (⟨r140.1.Thread, r140.1.Pc, r198.2⟩ : D.Lane) 1 := ⟨_, rfl⟩
                                have H := H r303 hr304
                                refine (cllArgs (by first | (simp only [List.length_set, hl203]; done) | (simp; done)) (laws_heldLane.con hp305 hr304 O35.row O35.le)).mono ?_
                                rintro _ w306 ⟨rfl, e307⟩
                                have O3 := O3.ext e307
                                have O17 := O17.ext e307
                                have O18 := O18.ext e307
                                have O32 := O32.ext e307
                                have O33 := O33.ext e307
                                have O34 := O34.ext e307
                                have O35 := O35.ext e307
                                have O36 := O36.ext e307
                                have O37 := O37.ext e307
                                have O52 := O52.ext e307
                                have O53 := O53.ext e307
                                have hB := ethen hB e307
                                refine ⟨r303, rfl, ?_⟩
                                refine bcase_mk (fun hc309 => ?_) (fun hc309 => ?_)
                                · have H := (bcase_iff.1 H).1 hc309
                                  obtain rfl := hr.trans H.symm
                                  exact ⟨rfl, hB⟩
                                · have H := (bcase_iff.1 H).2 hc309
                                  refine bcase_mk (fun hc308 => ?_) (fun hc308 => ?_)
                                  · have H := (bcase_iff.1 H).1 hc308
                                    obtain rfl := hr.trans H.symm
                                    exact ⟨rfl, hB⟩
                                  · have H := (bcase_iff.1 H).2 hc308
                                    obtain rfl := hr.trans H.symm
                                    exact ⟨rfl, hB⟩

end Go.V
