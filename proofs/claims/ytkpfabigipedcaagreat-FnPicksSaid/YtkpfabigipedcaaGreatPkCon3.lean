import Derived.Test.YtkpfabigipedcaaGreatPkCon2
namespace Go.V
open Go.Proofs
open IntKind (wrap)
set_option linter.unusedVariables false
set_option linter.unusedSimpArgs false
set_option maxRecDepth 100000
def qcY.vc (A0 : OA) (n0 c0 : Nat) (x1_0 : Int) (A1_1 : OA) (n1_1 c1_1 : Nat) (A1_2 : OA) (n1_2 c1_2 : Nat) (w : World) (K : VK) : Prop :=
  newK w (.cells #[(iv x1_0), (sv A1_1 n1_1 c1_1), (sv A1_2 n1_2 c1_2)] 52) fun g21 w22 => Run Tryz.prog (Instr.buildSlice 24 0 #[]) w22 fun v23 w24 => ∃ (A25 : OA) (n26 c27 : Nat), v23 = .slice A25 n26 c27 ∧ ldS w24 (((bx g21).add 2).add 0) fun A28 n29 c30 => Run Tryz.prog (Builtin.append_ #[24, 24] 24 #[(sv A25 n26 c27), (sv A28 n29 c30)]) w24 fun v31 w32 => ∃ (A33 : OA) (n34 c35 : Nat), v31 = .slice A33 n34 c35 ∧ ldS w32 (((bx g21).add 1).add 0) fun A36 n37 c38 => ldS w32 (((bx g21).add 1).add 0) fun A39 n40 c41 => (idx (wrap .i64 (((n40 : Nat) : Int) - 1)) n37 A36 fun a42 => ldI w32 ((a42.add (((wrap .i64 (((n40 : Nat) : Int) - 1)).toNat) * 3)).add 0) fun n43 => ldI w32 ((a42.add (((wrap .i64 (((n40 : Nat) : Int) - 1)).toNat) * 3)).add 1) fun n44 => ldI w32 ((a42.add (((wrap .i64 (((n40 : Nat) : Int) - 1)).toNat) * 3)).add 2) fun n45 => newK w32 (.cells #[(iv 0), (iv 0), (iv 0)] 91) fun g46 w47 => qa7 (bx g46) [(iv n43), (iv n44), (iv n45)] 0 w47 fun w48 => qdA (σ := Int × Unit) (fun z49 w50 next51 => qa1 (decide (z49.1 < 8)) (ldI w50 (((bx g46).add 2).add 0) fun n52 => Cl 101 #[(iv n52), (iv z49.1)] w50 fun v53 w54 => (∃ (b55 : Bool), v53 = (.bool b55) ∧ qa1 b55 ((∃ M56 : Nat → Prop, ldIM M56 w54 ((bx g46).add 0) 0 fun n57 => (idx n57 n0 A0 fun a58 => ldIM M56 w54 (a58.add ((n57.toNat) * 4)) 0 fun n59 => ldIM M56 w54 (a58.add ((n57.toNat) * 4)) 1 fun n60 => ldIM M56 w54 (a58.add ((n57.toNat) * 4)) 2 fun n61 => ldIM M56 w54 (a58.add ((n57.toNat) * 4)) 3 fun n62 => ldIM M56 w54 ((bx g21).add 0) 0 fun n63 => ldSM M56 w54 ((bx g21).add 2) 0 fun A64 n65 c66 => ((0 : Int) ≤ (wrap .i64 ((wrap .i64 (z49.1 + 1)) * 4)) ∧ (wrap .i64 ((wrap .i64 (z49.1 + 1)) * 4)) ≤ ((c66 : Nat) : Int) ∧ ((0 : Int) ≤ (wrap .i64 (z49.1 * 4)) ∧ (wrap .i64 (z49.1 * 4)) ≤ ((((wrap .i64 ((wrap .i64 (z49.1 + 1)) * 4)).toNat) : Nat) : Int) ∧ Cl 244 #[(.agg #[(iv n59), (iv n60), (iv n61), (iv n62)]), (iv (wrap .i64 ((wrap .i64 (n63 * 8)) + z49.1))), (sv (if c66 = ((wrap .i64 (z49.1 * 4)).toNat) then A64 else A64.map (·.add (((wrap .i64 (z49.1 * 4)).toNat) * szOf Tryz.prog 3))) (((wrap .i64 ((wrap .i64 (z49.1 + 1)) * 4)).toNat) - ((wrap .i64 (z49.1 * 4)).toNat)) (c66 - ((wrap .i64 (z49.1 * 4)).toNat)))] w54.drew fun v67 w68 => (∃ (A69 : OA) (n70 c71 : Nat), v67 = (sv A69 n70 c71) ∧ qac M56 w54 w68 ∧ qdA (σ := Int × Unit) (fun z72 w73 next74 => qa1 (decide (z72.1 < 4)) ((idx z72.1 n70 A69 fun a75 => ldI w73 ((a75.add ((z72.1.toNat) * 1)).add 0) fun n76 => (idx (wrap .i64 ((wrap .i64 (z49.1 * 4)) + z72.1)) n34 A33 fun a77 => qa7 (a77.add (((wrap .i64 ((wrap .i64 (z49.1 * 4)) + z72.1)).toNat) * 1)) [(iv n76)] 0 w73 fun w78 => next74 ((wrap .i64 (z72.1 + 1)), ()) w78))) (next51 ((wrap .i64 (z49.1 + 1)), ()) w73)) (0, ()) w68)))))) (next51 ((wrap .i64 (z49.1 + 1)), ()) w54))) (K (sv A33 n34 c35) w50)) (0, ()) w48)

def qcY.ann : Ann := (.seq .l (.seq .l (.seq .l (.seq (.seq .l (.one (.loop [(7, .int .i64)] (.seq (.seq .l (.two .l .l)) (.seq (.one (.seq .l (.two (.seq .l (.seq .l (.one (.loop [(9, .int .i64)] (.seq (.seq .l (.two .l .l)) (.seq (.one .l) .l)))))) .l))) .l))))) (.seq .l .l)))))

theorem qcY.con {xs0 : List D.Ins} {A0 A1_1 A1_2 : OA} {c0 c1_1 c1_2 : Nat} {s1 : D.Warp} {r : List Int} {w : World} (hp : M.qfW xs0 s1) (hr : r = M.qcY xs0 s1) (R0 : Row el84 w A0 xs0) (hc0 : xs0.length ≤ c0) (R1_1 : Row el91 w A1_1 s1.Frames) (hc1_1 : s1.Frames.length ≤ c1_1) (R1_2 : Row el3 w A1_2 s1.Regs) (hc1_2 : s1.Regs.length ≤ c1_2) :
    Cl 223 #[(sv A0 xs0.length c0), (.agg (wC A1_1 c1_1 A1_2 c1_2 s1))] w (fun v_ w_ => ∃ (A0_ : OA) (c0_ : Nat), v_ = (sv A0_ r.length c0_) ∧ Own el3 w_ w.heap.size A0_ c0_ r ∧ Ext w w_) := by
 have H := wp.qcY.math xs0 s1 hp
 refine begK mixed Tryz.f223 ann (vc A0 xs0.length c0 s1.Number A1_1 s1.Frames.length c1_1 A1_2 s1.Regs.length c1_2) ?_
 unfold vc
 unfold wp.qcY at H
 refine qax (fun g4_ w21 L4 O4 e22 => ?_)
 have hB := qa5 (Ext.refl w) e22
 refine qap el3 ([] : List Int) (fun _ => by kernel_rfl) rfl (fun A23 w24 P5 e25 => ?_)
 have N5_4 := P5.qa8 O4.lt
 have O4 := O4.ext e25
 have O5 := P5.mono hB.size
 have hB := qa5 hB e25
 refine ⟨_, _, _, (O4.a 2), ?_⟩
 obtain ⟨hl30, H⟩ := H
 refine appO qdZ O5 (R1_2.ext hB) hB.size hl30 (fun A26 c27 w28 P5 e29 => ?_)
 have N5_4_ := Apart.app N5_4 e29 O4.lt
 have O4 := O4.app e29 N5_4
 have N5_4 := N5_4_
 have hB := eapp hB e29 O5
 have O5 := P5
 refine ⟨_, _, _, (O4.a 1), _, _, _, (O4.a 1), ?_⟩
 obtain ⟨⟨h0_34, h1_35⟩, H⟩ := H
 obtain ⟨a32, ha33, hat31⟩ := Row.at (R1_1.ext hB) h0_34 h1_35
 refine ⟨h0_34, h1_35, a32, ha33, _, (hat31 0 _ rfl), _, (hat31 1 _ rfl), _, (hat31 2 _ rfl), ?_⟩
 refine qiV #[(iv ((rd s1.Frames (wrap .i64 ((s1.Frames.length : Int) - 1))).Pc)), (iv ((rd s1.Frames (wrap .i64 ((s1.Frames.length : Int) - 1))).Stop)), (iv ((rd s1.Frames (wrap .i64 ((s1.Frames.length : Int) - 1))).Mask))] (fun g6_ w38 L6 O6 e39 => ?_)
 have N5_6 := O5.qag L6
 have O4 := O4.ext e39
 have O5 := O5.ext e39
 have hB := qa5 hB e39
 obtain ⟨J115, ⟨m199, hJ198⟩, hS116⟩ := H
 refine ⟨fun m_ z_ w_ => ∃ (i111 : Int) (xs112 : List Int), z_ = (i111, ()) ∧ J115 m_ (i111, xs112, ()) ∧ Ext w w_ ∧ Own el3 w_ w.heap.size A26 c27 xs112 ∧ ((([] : List Int) ++ s1.Regs)).length = xs112.length ∧ Blk w_ g4_ 52 (wC A1_1 c1_1 A1_2 c1_2 s1) ∧ Blk w_ g6_ 91 #[(iv ((rd s1.Frames (wrap .i64 ((s1.Frames.length : Int) - 1))).Pc)), (iv ((rd s1.Frames (wrap .i64 ((s1.Frames.length : Int) - 1))).Stop)), (iv ((rd s1.Frames (wrap .i64 ((s1.Frames.length : Int) - 1))).Mask))], ⟨m199, 0, (([] : List Int) ++ s1.Regs), rfl, hJ198, hB, O5, (by first | rfl | assumption | omega | (simp; done) | (simp; omega) | (simp; assumption)), O4, O6⟩, ?_⟩
 rintro m114 _ w118 ⟨i111, xs112, rfl, hJ200, hB, O5, hn113, O4, O6⟩
 have H := hS116 m114 _ hJ200
 clear hS116 hJ200
 try dsimp only at H ⊢
 refine brc H (fun h H => ?_) fun h H => ?_
 ·refine ⟨_, (O6.a 2), ?_⟩
  obtain ⟨r119, hr120, H⟩ := qad H
  refine (qbG.con hr120 ).mono ?_
  rintro _ w122 ⟨rfl, e123⟩
  have O4 := O4.ext e123
  have O5 := O5.ext e123
  have O6 := O6.ext e123
  have hB := qa5 hB e123
  refine ⟨r119, rfl, ?_⟩
  refine brc H (fun h H => ?_) fun h H => ?_
  ·refine ⟨(fun _ => False), _, noM (O6.a 0), ?_⟩
   obtain ⟨⟨h0_128, h1_129⟩, H⟩ := H
   obtain ⟨a126, ha127, hat125⟩ := Row.at (R0.ext hB) h0_128 h1_129
   refine ⟨h0_128, h1_129, a126, ha127, _, ⟨(fun h_ => h_), (hat125 0 _ rfl)⟩, _, ⟨(fun h_ => h_), (hat125 1 _ rfl)⟩, _, ⟨(fun h_ => h_), (hat125 2 _ rfl)⟩, _, ⟨(fun h_ => h_), (hat125 3 _ rfl)⟩, _, noM (O4.a 0), _, _, _, noM (O4.a 2), ?_⟩
   obtain ⟨⟨hh130, hh131, hl132, hl133⟩, H⟩ := H
   refine and_assoc.1 ⟨⟨hh130, Int.le_trans hh131 (Int.ofNat_le.2 hc1_2)⟩, ?_⟩
   refine and_assoc.1 ⟨⟨hl132, (by omega)⟩, ?_⟩
   rw [show (((wrap .i64 ((wrap .i64 (i111 + 1)) * 4)).toNat) - ((wrap .i64 (i111 * 4)).toNat)) = ((List.drop ((wrap .i64 (i111 * 4)).toNat) (List.take ((wrap .i64 ((wrap .i64 (i111 + 1)) * 4)).toNat) s1.Regs))).length from by first | rfl | (simp; done) | (simp; omega)]
   have R9_ := ((R1_2.take ((wrap .i64 ((wrap .i64 (i111 + 1)) * 4)).toNat)).drop (l := ((wrap .i64 (i111 * 4)).toNat)) (m := c1_2) (by have := hc1_2; simp; omega))
   have le9_ : ((List.drop ((wrap .i64 (i111 * 4)).toNat) (List.take ((wrap .i64 ((wrap .i64 (i111 + 1)) * 4)).toNat) s1.Regs))).length ≤ (c1_2 - ((wrap .i64 (i111 * 4)).toNat)) := by have := hc1_2; simp; omega
   have O4 := O4.ext (Ext.drew _)
   have O5 := O5.ext (Ext.drew _)
   have O6 := O6.ext (Ext.drew _)
   have hB := qa5 hB (Ext.drew _)
   have hS124 := (Chg.refl (fun _ => False) w122).then (Ext.drew _)
   obtain ⟨hp136, H⟩ := H
   obtain ⟨r134, hr135, H⟩ := qad H
   refine (qaY.con hp136 hr135 (R9_.ext hB) le9_).mono ?_
   rintro _ w137 ⟨A139, c140, rfl, P10, e138⟩
   have N5_10 := aN O5 P10
   have O4 := O4.ext e138
   have O5 := O5.ext e138
   have O6 := O6.ext e138
   have O10 := P10.mono hB.size
   have hB := qa5 hB e138
   have hS124 := hS124.then e138
   refine ⟨A139, r134.length, c140, rfl, qa2 hS124, ?_⟩
   obtain ⟨J164, ⟨m190, hJ189⟩, hS165⟩ := H
   refine ⟨fun m_ z_ w_ => ∃ (i160 : Int) (xs161 : List Int), z_ = (i160, ()) ∧ J164 m_ (i160, xs161, ()) ∧ Ext w w_ ∧ Own el3 w_ w.heap.size A26 c27 xs161 ∧ ((([] : List Int) ++ s1.Regs)).length = xs161.length ∧ Blk w_ g4_ 52 (wC A1_1 c1_1 A1_2 c1_2 s1) ∧ Blk w_ g6_ 91 #[(iv ((rd s1.Frames (wrap .i64 ((s1.Frames.length : Int) - 1))).Pc)), (iv ((rd s1.Frames (wrap .i64 ((s1.Frames.length : Int) - 1))).Stop)), (iv ((rd s1.Frames (wrap .i64 ((s1.Frames.length : Int) - 1))).Mask))] ∧ Own el3 w_ w.heap.size A139 c140 r134, ⟨m190, 0, xs112, rfl, hJ189, hB, O5, (by first | rfl | assumption | omega | (simp; done) | (simp; omega) | (simp; assumption)), O4, O6, O10⟩, ?_⟩
   rintro m163 _ w167 ⟨i160, xs161, rfl, hJ191, hB, O5, hn162, O4, O6, O10⟩
   have H := hS165 m163 _ hJ191
   clear hS165 hJ191
   try dsimp only at H ⊢
   refine brc H (fun h H => ?_) fun h H => ?_
   ·obtain ⟨⟨h0_171, h1_172⟩, H⟩ := H
    obtain ⟨a169, ha170, hat168⟩ := Row.at O10.row h0_171 h1_172
    refine ⟨h0_171, h1_172, a169, ha170, _, (hat168 0 _ rfl), ?_⟩
    obtain ⟨⟨h0_176, h1_177⟩, H⟩ := H
    obtain ⟨a174, ha175, hat173⟩ := Row.at O5.row h0_176 h1_177
    refine ⟨h0_176, (by first | exact h1_177 | omega | (simp at h1_177 ⊢; omega)), a174, ha175, ?_⟩
    refine Own.stA O5 ha175 h0_176 h1_177 0 (rd r134 i160) (fun w178 O5 e179 hb180 => ?_)
    have O4 := O4.chg e179 (fun h_ => (N5_4) _ ha175 h_.symm)
    have O6 := O6.chg e179 (fun h_ => (N5_6) _ ha175 h_.symm)
    have O10 := O10.chg e179 (((N5_10).symm).left ha175)
    have hB := echg hB e179 hb180
    obtain ⟨m181, hm182, hJ183⟩ := H
    exact ⟨m181, hm182, _, _, rfl, hJ183, hB, O5, (by first | rfl | assumption | omega | (simp; done) | (simp; omega) | (simp; assumption)), O4, O6, O10⟩
   obtain ⟨m184, hm185, hJ186⟩ := H
   exact ⟨m184, hm185, _, _, rfl, hJ186, hB, O5, (by first | rfl | assumption | omega | (simp; done) | (simp; omega) | (simp; assumption)), O4, O6⟩
  obtain ⟨m192, hm193, hJ194⟩ := H
  exact ⟨m192, hm193, _, _, rfl, hJ194, hB, O5, (by first | rfl | assumption | omega | (simp; done) | (simp; omega) | (simp; assumption)), O4, O6⟩
 cases hr.trans H.symm
 exact ⟨A26, c27, (by first | rfl | (rw [hn113]; done) | (simp; done) | (simp; omega) | (simp [*]; done)), (by first | exact O5 | (simp only [bC, wC, List.length_set]; exact O5) | (rw [← hn113]; exact O5)), hB⟩
def qdk.vc (A0 : OA) (n0 c0 : Nat) (x1_0 : Int) (A1_1 : OA) (n1_1 c1_1 : Nat) (A1_2 : OA) (n1_2 c1_2 : Nat) (w : World) (K : VK) : Prop :=
  newK w (.cells #[(iv x1_0), (sv A1_1 n1_1 c1_1), (sv A1_2 n1_2 c1_2)] 52) fun g21 w22 => newK w22 (.cells #[(iv 0), (sv none 0 0), (sv none 0 0)] 52) fun g23 w24 => ldI w24 ((bx g21).add 0) fun n25 => ldS w24 ((bx g21).add 1) fun A26 n27 c28 => ldS w24 ((bx g21).add 2) fun A29 n30 c31 => Cl 221 #[(.agg #[(iv n25), (sv A26 n27 c28), (sv A29 n30 c31)])] w24 fun v32 w33 => (∃ (n34 : Int), True ∧ ∃ (A35 : OA) (n36 c37 : Nat), True ∧ ∃ (A38 : OA) (n39 c40 : Nat), True ∧ v32 = (.agg #[(iv n34), (sv A35 n36 c37), (sv A38 n39 c40)]) ∧ newK w33 (.cells #[(iv 0), (sv none 0 0), (sv none 0 0)] 52) fun g41 w42 => qa7 (bx g41) [(iv n34), (sv A35 n36 c37), (sv A38 n39 c40)] 0 w42 fun w43 => ldS w43 (((bx g21).add 1).add 0) fun A44 n45 c46 => ldS w43 (((bx g21).add 1).add 0) fun A47 n48 c49 => (idx (wrap .i64 (((n45 : Nat) : Int) - 1)) n48 A47 fun a50 => ldI w43 ((a50.add (((wrap .i64 (((n45 : Nat) : Int) - 1)).toNat) * 3)).add 0) fun n51 => ldI w43 ((a50.add (((wrap .i64 (((n45 : Nat) : Int) - 1)).toNat) * 3)).add 1) fun n52 => ldI w43 ((a50.add (((wrap .i64 (((n45 : Nat) : Int) - 1)).toNat) * 3)).add 2) fun n53 => newK w43 (.cells #[(iv 0), (iv 0), (iv 0)] 91) fun g54 w55 => qa7 (bx g54) [(iv n51), (iv n52), (iv n53)] 0 w55 fun w56 => ldI w56 (((bx g54).add 0).add 0) fun n57 => (idx n57 n0 A0 fun a58 => ldI w56 ((a58.add ((n57.toNat) * 4)).add 0) fun n59 => ldI w56 ((a58.add ((n57.toNat) * 4)).add 1) fun n60 => ldI w56 ((a58.add ((n57.toNat) * 4)).add 2) fun n61 => ldI w56 ((a58.add ((n57.toNat) * 4)).add 3) fun n62 => newK w56 (.cells #[(iv 0), (iv 0), (iv 0), (iv 0)] 84) fun g63 w64 => qa7 (bx g63) [(iv n59), (iv n60), (iv n61), (iv n62)] 0 w64 fun w65 => ldI w65 ((bx g21).add 0) fun n66 => ldS w65 ((bx g21).add 1) fun A67 n68 c69 => ldS w65 ((bx g21).add 2) fun A70 n71 c72 => Cl 169 #[(sv A0 n0 c0), (.agg #[(iv n66), (sv A67 n68 c69), (sv A70 n71 c72)])] w65 fun v73 w74 => (∃ (b75 : Bool), v73 = (.bool b75) ∧ qa1 b75 (ldI w74 ((bx g21).add 0) fun n76 => ldS w74 ((bx g21).add 1) fun A77 n78 c79 => ldS w74 ((bx g21).add 2) fun A80 n81 c82 => ldI w74 (((bx g63).add 1).add 0) fun n83 => Cl 205 #[(.agg #[(iv n76), (sv A77 n78 c79), (sv A80 n81 c82)]), (iv n83)] w74 fun v84 w85 => (∃ (n86 : Int), v84 = (iv n86) ∧ ldI w85 (((bx g54).add 0).add 0) fun n87 => Cl 222 #[(sv A0 n0 c0), (iv n87)] w85 fun v88 w89 => (∃ (n90 : Int), v88 = (iv n90) ∧ ldS w89 (((bx g41).add 1).add 0) fun A91 n92 c93 => (idx (wrap .i64 (((n45 : Nat) : Int) - 1)) n92 A91 fun a94 => qa7 ((a94.add (((wrap .i64 (((n45 : Nat) : Int) - 1)).toNat) * 3)).add 0) [(iv n90)] 0 w89 fun w95 => ldS w95 (((bx g41).add 1).add 0) fun A96 n97 c98 => ldI w95 (((bx g54).add 0).add 0) fun n99 => ldI w95 (((bx g54).add 2).add 0) fun n100 => ldI w95 (((bx g63).add 2).add 0) fun n101 => Run Tryz.prog (Instr.buildSlice 50 2 #[(0, (.agg #[(iv (wrap .i64 (n99 + 1))), (iv n90), (iv (wrap .i64 (n100 - n86)))])), (1, (.agg #[(iv n101), (iv n90), (iv n86)]))]) w95 fun v102 w103 => ∃ (A104 : OA) (n105 c106 : Nat), v102 = .slice A104 n105 c106 ∧ Run Tryz.prog (Builtin.append_ #[50, 50] 50 #[(sv A96 n97 c98), (sv A104 n105 c106)]) w103 fun v107 w108 => ∃ (A109 : OA) (n110 c111 : Nat), v107 = .slice A109 n110 c111 ∧ qa7 ((bx g41).add 1) [(sv A109 n110 c111)] 0 w108 fun w112 => ldI w112 ((bx g41).add 0) fun n113 => ldS w112 ((bx g41).add 1) fun A114 n115 c116 => ldS w112 ((bx g41).add 2) fun A117 n118 c119 => Cl 202 #[(sv A0 n0 c0), (.agg #[(iv n113), (sv A114 n115 c116), (sv A117 n118 c119)])] w112 fun v120 w121 => (∃ (n122 : Int), True ∧ ∃ (A123 : OA) (n124 c125 : Nat), True ∧ ∃ (A126 : OA) (n127 c128 : Nat), True ∧ v120 = (.agg #[(iv n122), (sv A123 n124 c125), (sv A126 n127 c128)]) ∧ qa7 (bx g23) [(iv n122), (sv A123 n124 c125), (sv A126 n127 c128)] 0 w121 fun w129 => ldI w129 ((bx g23).add 0) fun n130 => ldS w129 ((bx g23).add 1) fun A131 n132 c133 => ldS w129 ((bx g23).add 2) fun A134 n135 c136 => K (.agg #[(iv n130), (sv A131 n132 c133), (sv A134 n135 c136)]) w129))))) (ldI w74 ((bx g21).add 0) fun n137 => ldS w74 ((bx g21).add 1) fun A138 n139 c140 => ldS w74 ((bx g21).add 2) fun A141 n142 c143 => Cl 223 #[(sv A0 n0 c0), (.agg #[(iv n137), (sv A138 n139 c140), (sv A141 n142 c143)])] w74 fun v144 w145 => (∃ (A146 : OA) (n147 c148 : Nat), v144 = (sv A146 n147 c148) ∧ qa7 ((bx g41).add 2) [(sv A146 n147 c148)] 0 w145 fun w149 => ldI w149 (((bx g63).add 0).add 0) fun n150 => qa1 (n150 == 12) (ldS w149 (((bx g41).add 1).add 0) fun A151 n152 c153 => (idx (wrap .i64 (((n45 : Nat) : Int) - 1)) n152 A151 fun a154 => qa7 ((a154.add (((wrap .i64 (((n45 : Nat) : Int) - 1)).toNat) * 3)).add 0) [(iv ((n0 : Nat) : Int))] 0 w149 fun w155 => ldI w155 ((bx g41).add 0) fun n156 => ldS w155 ((bx g41).add 1) fun A157 n158 c159 => ldS w155 ((bx g41).add 2) fun A160 n161 c162 => Cl 202 #[(sv A0 n0 c0), (.agg #[(iv n156), (sv A157 n158 c159), (sv A160 n161 c162)])] w155 fun v163 w164 => (∃ (n165 : Int), True ∧ ∃ (A166 : OA) (n167 c168 : Nat), True ∧ ∃ (A169 : OA) (n170 c171 : Nat), True ∧ v163 = (.agg #[(iv n165), (sv A166 n167 c168), (sv A169 n170 c171)]) ∧ qa7 (bx g23) [(iv n165), (sv A166 n167 c168), (sv A169 n170 c171)] 0 w164 fun w172 => ldI w172 ((bx g23).add 0) fun n173 => ldS w172 ((bx g23).add 1) fun A174 n175 c176 => ldS w172 ((bx g23).add 2) fun A177 n178 c179 => K (.agg #[(iv n173), (sv A174 n175 c176), (sv A177 n178 c179)]) w172))) (qa1 (n150 == 11) (ldS w149 (((bx g41).add 1).add 0) fun A180 n181 c182 => ldI w149 (((bx g63).add 2).add 0) fun n183 => (idx (wrap .i64 (((n45 : Nat) : Int) - 1)) n181 A180 fun a184 => qa7 ((a184.add (((wrap .i64 (((n45 : Nat) : Int) - 1)).toNat) * 3)).add 0) [(iv n183)] 0 w149 fun w185 => ldI w185 ((bx g41).add 0) fun n186 => ldS w185 ((bx g41).add 1) fun A187 n188 c189 => ldS w185 ((bx g41).add 2) fun A190 n191 c192 => Cl 202 #[(sv A0 n0 c0), (.agg #[(iv n186), (sv A187 n188 c189), (sv A190 n191 c192)])] w185 fun v193 w194 => (∃ (n195 : Int), True ∧ ∃ (A196 : OA) (n197 c198 : Nat), True ∧ ∃ (A199 : OA) (n200 c201 : Nat), True ∧ v193 = (.agg #[(iv n195), (sv A196 n197 c198), (sv A199 n200 c201)]) ∧ qa7 (bx g23) [(iv n195), (sv A196 n197 c198), (sv A199 n200 c201)] 0 w194 fun w202 => ldI w202 ((bx g23).add 0) fun n203 => ldS w202 ((bx g23).add 1) fun A204 n205 c206 => ldS w202 ((bx g23).add 2) fun A207 n208 c209 => K (.agg #[(iv n203), (sv A204 n205 c206), (sv A207 n208 c209)]) w202))) (ldS w149 (((bx g41).add 1).add 0) fun A210 n211 c212 => ldI w149 (((bx g54).add 0).add 0) fun n213 => (idx (wrap .i64 (((n45 : Nat) : Int) - 1)) n211 A210 fun a214 => qa7 ((a214.add (((wrap .i64 (((n45 : Nat) : Int) - 1)).toNat) * 3)).add 0) [(iv (wrap .i64 (n213 + 1)))] 0 w149 fun w215 => qfL (σ := Bool × Unit) (fun J216 => (∃ M217 : Nat → Prop, ldIM M217 w215 ((bx g63).add 0) 0 fun n218 => qa1 (n218 == 10) (ldIM M217 w215 (bx g21) 0 fun n219 => ldSM M217 w215 (bx g21) 1 fun A220 n221 c222 => ldSM M217 w215 (bx g21) 2 fun A223 n224 c225 => ldIM M217 w215 ((bx g63).add 1) 0 fun n226 => ldIM M217 w215 ((bx g54).add 2) 0 fun n227 => Cl 205 #[(.agg #[(iv n219), (sv A220 n221 c222), (sv A223 n224 c225)]), (iv n226)] w215.drew fun v228 w229 => (∃ (n230 : Int), v228 = (iv n230) ∧ qac M217 w215 w229 ∧ J216 ((n230 == n227), ()) w229)) (J216 (false, ()) w215.drew))) fun z231 w232 => qa1 z231.1 (ldS w232 (((bx g41).add 1).add 0) fun A233 n234 c235 => ldI w232 (((bx g63).add 2).add 0) fun n236 => (idx (wrap .i64 (((n45 : Nat) : Int) - 1)) n234 A233 fun a237 => qa7 ((a237.add (((wrap .i64 (((n45 : Nat) : Int) - 1)).toNat) * 3)).add 0) [(iv n236)] 0 w232 fun w238 => ldI w238 ((bx g41).add 0) fun n239 => ldS w238 ((bx g41).add 1) fun A240 n241 c242 => ldS w238 ((bx g41).add 2) fun A243 n244 c245 => Cl 202 #[(sv A0 n0 c0), (.agg #[(iv n239), (sv A240 n241 c242), (sv A243 n244 c245)])] w238 fun v246 w247 => (∃ (n248 : Int), True ∧ ∃ (A249 : OA) (n250 c251 : Nat), True ∧ ∃ (A252 : OA) (n253 c254 : Nat), True ∧ v246 = (.agg #[(iv n248), (sv A249 n250 c251), (sv A252 n253 c254)]) ∧ qa7 (bx g23) [(iv n248), (sv A249 n250 c251), (sv A252 n253 c254)] 0 w247 fun w255 => ldI w255 ((bx g23).add 0) fun n256 => ldS w255 ((bx g23).add 1) fun A257 n258 c259 => ldS w255 ((bx g23).add 2) fun A260 n261 c262 => K (.agg #[(iv n256), (sv A257 n258 c259), (sv A260 n261 c262)]) w255))) (ldI w232 ((bx g41).add 0) fun n263 => ldS w232 ((bx g41).add 1) fun A264 n265 c266 => ldS w232 ((bx g41).add 2) fun A267 n268 c269 => Cl 202 #[(sv A0 n0 c0), (.agg #[(iv n263), (sv A264 n265 c266), (sv A267 n268 c269)])] w232 fun v270 w271 => (∃ (n272 : Int), True ∧ ∃ (A273 : OA) (n274 c275 : Nat), True ∧ ∃ (A276 : OA) (n277 c278 : Nat), True ∧ v270 = (.agg #[(iv n272), (sv A273 n274 c275), (sv A276 n277 c278)]) ∧ qa7 (bx g23) [(iv n272), (sv A273 n274 c275), (sv A276 n277 c278)] 0 w271 fun w279 => ldI w279 ((bx g23).add 0) fun n280 => ldS w279 ((bx g23).add 1) fun A281 n282 c283 => ldS w279 ((bx g23).add 2) fun A284 n285 c286 => K (.agg #[(iv n280), (sv A281 n282 c283), (sv A284 n285 c286)]) w279)))))))))))

def qdk.ann : Ann := (.seq .l (.seq .l (.seq .l (.seq .l (.seq .l (.seq (.seq .l (.two (.seq .l (.seq .l (.seq .l (.seq .l (.seq .l .l))))) .l)) (.seq .l (.seq (.seq .l (.one (.seq .l (.two .l (.seq .l (.two .l (.seq .l (.cut [(91, .bool)] .l (.two .l .l))))))))) (.seq .l .l)))))))))

theorem qdk.con {xs0 : List D.Ins} {A0 A1_1 A1_2 : OA} {c0 c1_1 c1_2 : Nat} {s1 r : D.Warp} {w : World} (hp : M.qgu xs0 s1) (hr : r = M.qdk xs0 s1) (R0 : Row el84 w A0 xs0) (hc0 : xs0.length ≤ c0) (R1_1 : Row el91 w A1_1 s1.Frames) (hc1_1 : s1.Frames.length ≤ c1_1) (R1_2 : Row el3 w A1_2 s1.Regs) (hc1_2 : s1.Regs.length ≤ c1_2) :
    Cl 200 #[(sv A0 xs0.length c0), (.agg (wC A1_1 c1_1 A1_2 c1_2 s1))] w (fun v_ w_ => ∃ (A0_ : OA) (c0_ : Nat) (A1_ : OA) (c1_ : Nat), v_ = (.agg (wC A0_ c0_ A1_ c1_ r)) ∧ Own el91 w_ w.heap.size A0_ c0_ r.Frames ∧ Own el3 w_ w.heap.size A1_ c1_ r.Regs ∧ Ext w w_) := by
 have H := wp.qdk.math xs0 s1 hp
 refine begK mixed Tryz.f200 ann (vc A0 xs0.length c0 s1.Number A1_1 s1.Frames.length c1_1 A1_2 s1.Regs.length c1_2) ?_
 unfold vc
 unfold wp.qdk at H
 refine qax (fun g4_ w21 L4 O4 e22 => ?_)
 have hB := qa5 (Ext.refl w) e22
 refine qax (fun g5_ w23 L5 P5 e24 => ?_)
 have O4 := O4.ext e24
 have O5 := P5
 have L5 := Nat.le_trans hB.size L5
 have hB := qa5 hB e24
 refine ⟨_, (O4.a 0), _, _, _, (O4.a 1), _, _, _, (O4.a 2), ?_⟩
 obtain ⟨hp27, H⟩ := H
 obtain ⟨r25, hr26, H⟩ := qad H
 refine (qbZ.con hp27 hr26 (R1_1.ext hB) hc1_1 (R1_2.ext hB) hc1_2).mono ?_
 rintro _ w28 ⟨A30, c31, A32, c33, rfl, P6, P7, e29⟩
 have N6_4 := P6.qa8 O4.lt
 have N6_5 := P6.qa8 O5.lt
 have O4 := O4.ext e29
 have O5 := O5.ext e29
 have O6 := P6.mono hB.size
 have O7 := P7.mono hB.size
 have hB := qa5 hB e29
 refine ⟨r25.Number, trivial, A30, r25.Frames.length, c31, trivial, A32, r25.Regs.length, c33, trivial, rfl, ?_⟩
 refine qax (fun g8_ w34 L8 P8 e35 => ?_)
 have N4_8 := O4.ne L8
 have N5_8 := O5.ne L8
 have N6_8 := O6.qag L8
 have N7_8 := O7.qag L8
 have O4 := O4.ext e35
 have O5 := O5.ext e35
 have O6 := O6.ext e35
 have O7 := O7.ext e35
 have O8 := P8
 have L8 := Nat.le_trans hB.size L8
 have hB := qa5 hB e35
 refine stB O8 0 (wC A30 c31 A32 c33 r25) (fun w36 P8 e37 => ?_)
 have O4_ := O4.chg e37 N4_8
 have O5_ := O5.chg e37 N5_8
 have O6_ := O6.chg e37 N6_8
 have O7_ := O7.chg e37 N7_8
 have O4 := O4_
 have O5 := O5_
 have O6 := O6_
 have O7 := O7_
 have hB := echg hB e37 L8
 have O8 := P8
 refine ⟨_, _, _, (O4.a 1), _, _, _, (O4.a 1), ?_⟩
 obtain ⟨⟨h0_41, h1_42⟩, H⟩ := H
 obtain ⟨a39, ha40, hat38⟩ := Row.at (R1_1.ext hB) h0_41 h1_42
 refine ⟨h0_41, h1_42, a39, ha40, _, (hat38 0 _ rfl), _, (hat38 1 _ rfl), _, (hat38 2 _ rfl), ?_⟩
 refine qax (fun g9_ w43 L9 P9 e44 => ?_)
 have N4_9 := O4.ne L9
 have N5_9 := O5.ne L9
 have N6_9 := O6.qag L9
 have N7_9 := O7.qag L9
 have N8_9 := O8.ne L9
 have O4 := O4.ext e44
 have O5 := O5.ext e44
 have O6 := O6.ext e44
 have O7 := O7.ext e44
 have O8 := O8.ext e44
 have O9 := P9
 have L9 := Nat.le_trans hB.size L9
 have hB := qa5 hB e44
 refine qbI O9 (o := 0) (cs' := #[(iv ((rd s1.Frames (wrap .i64 ((s1.Frames.length : Int) - 1))).Pc)), (iv ((rd s1.Frames (wrap .i64 ((s1.Frames.length : Int) - 1))).Stop)), (iv ((rd s1.Frames (wrap .i64 ((s1.Frames.length : Int) - 1))).Mask))]) rfl rfl (Nat.le_of_ble_eq_true rfl) rfl (fun w45 O9 e46 => ?_)
 have O4_ := O4.chg e46 N4_9
 have O5_ := O5.chg e46 N5_9
 have O6_ := O6.chg e46 N6_9
 have O7_ := O7.chg e46 N7_9
 have O8_ := O8.chg e46 N8_9
 have O4 := O4_
 have O5 := O5_
 have O6 := O6_
 have O7 := O7_
 have O8 := O8_
 have hB := echg hB e46 L9
 refine ⟨_, (O9.a 0), ?_⟩
 obtain ⟨⟨h0_50, h1_51⟩, H⟩ := H
 obtain ⟨a48, ha49, hat47⟩ := Row.at (R0.ext hB) h0_50 h1_51
 refine ⟨h0_50, h1_51, a48, ha49, _, (hat47 0 _ rfl), _, (hat47 1 _ rfl), _, (hat47 2 _ rfl), _, (hat47 3 _ rfl), ?_⟩
 refine qax (fun g10_ w52 L10 P10 e53 => ?_)
 have N4_10 := O4.ne L10
 have N5_10 := O5.ne L10
 have N6_10 := O6.qag L10
 have N7_10 := O7.qag L10
 have N8_10 := O8.ne L10
 have N9_10 := O9.ne L10
 have O4 := O4.ext e53
 have O5 := O5.ext e53
 have O6 := O6.ext e53
 have O7 := O7.ext e53
 have O8 := O8.ext e53
 have O9 := O9.ext e53
 have O10 := P10
 have L10 := Nat.le_trans hB.size L10
 have hB := qa5 hB e53
 refine qbI O10 (o := 0) (cs' := #[(iv ((rd xs0 ((rd s1.Frames (wrap .i64 ((s1.Frames.length : Int) - 1))).Pc)).Op)), (iv ((rd xs0 ((rd s1.Frames (wrap .i64 ((s1.Frames.length : Int) - 1))).Pc)).A)), (iv ((rd xs0 ((rd s1.Frames (wrap .i64 ((s1.Frames.length : Int) - 1))).Pc)).B)), (iv ((rd xs0 ((rd s1.Frames (wrap .i64 ((s1.Frames.length : Int) - 1))).Pc)).C))]) rfl rfl (Nat.le_of_ble_eq_true rfl) rfl (fun w54 O10 e55 => ?_)
 have O4_ := O4.chg e55 N4_10
 have O5_ := O5.chg e55 N5_10
 have O6_ := O6.chg e55 N6_10
 have O7_ := O7.chg e55 N7_10
 have O8_ := O8.chg e55 N8_10
 have O9_ := O9.chg e55 N9_10
 have O4 := O4_
 have hB := echg hB e55 L10
 refine ⟨_, (O4.a 0), _, _, _, (O4.a 1), _, _, _, (O4.a 2), ?_⟩
 obtain ⟨hp58, H⟩ := H
 obtain ⟨r56, hr57, H⟩ := qad H
 refine (qbd.con hp58 hr57 (R0.ext hB) hc0 (R1_1.ext hB) hc1_1 (R1_2.ext hB) hc1_2).mono ?_
 rintro _ w59 ⟨rfl, e60⟩
 have O4 := O4.ext e60
 have O5 := O5_.ext e60
 have O6 := O6_.ext e60
 have O7 := O7_.ext e60
 have O8 := O8_.ext e60
 have O9 := O9_.ext e60
 have O10 := O10.ext e60
 have hB := qa5 hB e60
 refine ⟨r56, rfl, ?_⟩
 refine brc H (fun h H => ?_) fun h H => ?_
 ·refine ⟨_, (O4.a 0), _, _, _, (O4.a 1), _, _, _, (O4.a 2), _, (O10.a 1), ?_⟩
  obtain ⟨hp63, H⟩ := H
  obtain ⟨r61, hr62, H⟩ := qad H
  refine (qaO.con hp63 hr62 (R1_1.ext hB) hc1_1 (R1_2.ext hB) hc1_2).mono ?_
  rintro _ w64 ⟨rfl, e65⟩
  have O9 := O9.ext e65
  have hB := qa5 hB e65
  refine ⟨r61, rfl, _, (O9.a 0), ?_⟩
  obtain ⟨hp68, H⟩ := H
  obtain ⟨r66, hr67, H⟩ := qad H
  refine (qcB.con hp68 hr67 (R0.ext hB) hc0).mono ?_
  rintro _ w69 ⟨rfl, e70⟩
  have O5 := (O5.ext e65).ext e70
  have O6 := (O6.ext e65).ext e70
  have O7 := (O7.ext e65).ext e70
  have O8 := (O8.ext e65).ext e70
  have O9 := O9.ext e70
  have O10 := (O10.ext e65).ext e70
  have hB := qa5 hB e70
  refine ⟨r66, rfl, _, _, _, (O8.a 1), ?_⟩
  obtain ⟨⟨h0_74, h1_75⟩, H⟩ := H
  obtain ⟨a72, ha73, hat71⟩ := Row.at O6.row h0_74 h1_75
  refine ⟨h0_74, h1_75, a72, ha73, ?_⟩
  refine Own.stA O6 ha73 h0_74 h1_75 0 (⟨r66, (rd r25.Frames (wrap .i64 ((s1.Frames.length : Int) - 1))).Stop, (rd r25.Frames (wrap .i64 ((s1.Frames.length : Int) - 1))).Mask⟩ : D.Frame) (fun w76 P6 e77 hb78 => ?_)
  have O5_ := O5.chg e77 (fun h_ => (N6_5) _ ha73 h_.symm)
  have O7_ := O7.chg e77 (((Own.qaq O7 O6 (by decide))).left ha73)
  have O8_ := O8.chg e77 (fun h_ => (N6_8) _ ha73 h_.symm)
  have O9_ := O9.chg e77 (fun h_ => (N6_9) _ ha73 h_.symm)
  have O10_ := O10.chg e77 (fun h_ => (N6_10) _ ha73 h_.symm)
  have O8 := O8_
  have O9 := O9_
  have O10 := O10_
  have hB := echg hB e77 hb78
  refine ⟨_, _, _, (O8.a 1), _, (O9.a 0), _, (O9.a 2), _, (O10.a 2), ?_⟩
  refine qap el91 ([(⟨(wrap .i64 ((rd s1.Frames (wrap .i64 ((s1.Frames.length : Int) - 1))).Pc + 1)), r66, (wrap .i64 ((rd s1.Frames (wrap .i64 ((s1.Frames.length : Int) - 1))).Mask - r61))⟩ : D.Frame), (⟨(rd xs0 ((rd s1.Frames (wrap .i64 ((s1.Frames.length : Int) - 1))).Pc)).B, r66, r61⟩ : D.Frame)] : List D.Frame) (fun _ => by kernel_rfl) rfl (fun A79 w80 P11 e81 => ?_)
  have O6 := P6.ext e81
  have O7 := O7_.ext e81
  have O8 := O8.ext e81
  have O11 := P11.mono hB.size
  have hB := qa5 hB e81
  obtain ⟨hl86, H⟩ := H
  refine appO qja O6 O11.row hB.size hl86 (fun A82 c83 w84 P6 e85 => ?_)
  have O7 := O7.app e85 (Own.qaq O7 O6 (by decide))
  have N6_8_ := Apart.app N6_8 e85 O8.lt
  have O8 := O8.app e85 N6_8
  have N6_8 := N6_8_
  have hB := eapp hB e85 O6
  have O6 := P6
  refine qbI O8 (o := 1) (cs' := #[(iv r25.Number), (sv A82 ((((List.set r25.Frames ((wrap .i64 ((s1.Frames.length : Int) - 1)).toNat) (⟨r66, (rd r25.Frames (wrap .i64 ((s1.Frames.length : Int) - 1))).Stop, (rd r25.Frames (wrap .i64 ((s1.Frames.length : Int) - 1))).Mask⟩ : D.Frame)) ++ ([(⟨(wrap .i64 ((rd s1.Frames (wrap .i64 ((s1.Frames.length : Int) - 1))).Pc + 1)), r66, (wrap .i64 ((rd s1.Frames (wrap .i64 ((s1.Frames.length : Int) - 1))).Mask - r61))⟩ : D.Frame), (⟨(rd xs0 ((rd s1.Frames (wrap .i64 ((s1.Frames.length : Int) - 1))).Pc)).B, r66, r61⟩ : D.Frame)] : List D.Frame))).length) c83), (sv A32 r25.Regs.length c33)]) rfl rfl (Nat.le_of_ble_eq_true rfl) rfl (fun w87 O8 e88 => ?_)
  have O5 := ((O5_.ext e81).app e85 N6_5).chg e88 N5_8
  have O6_ := O6.chg e88 N6_8
  have O7_ := O7.chg e88 N7_8
  have O6 := O6_
  have O7 := O7_
  have hB := echg hB e88 L8
  refine ⟨_, (O8.a 0), _, _, _, (O8.a 1), _, _, _, (O8.a 2), ?_⟩
  obtain ⟨hp91, H⟩ := H
  obtain ⟨r89, hr90, H⟩ := qad H
  refine (qaG.con hp91 hr90 (R0.ext hB) hc0 O6.row O6.le O7.row O7.le).mono ?_
  rintro _ w92 ⟨A94, c95, A96, c97, rfl, P12, P13, e93⟩
  have N12_5 := P12.qa8 O5.lt
  have N13_5 := P13.qa8 O5.lt
  have O5 := O5.ext e93
  have O12 := P12.mono hB.size
  have O13 := P13.mono hB.size
  have hB := qa5 hB e93
  refine ⟨r89.Number, trivial, A94, r89.Frames.length, c95, trivial, A96, r89.Regs.length, c97, trivial, rfl, ?_⟩
  refine qbI O5 (o := 0) (cs' := (wC A94 c95 A96 c97 r89)) rfl rfl (Nat.le_of_ble_eq_true rfl) rfl (fun w98 O5 e99 => ?_)
  have O12 := O12.chg e99 N12_5
  have O13 := O13.chg e99 N13_5
  have hB := echg hB e99 L5
  refine ⟨_, (O5.a 0), _, _, _, (O5.a 1), _, _, _, (O5.a 2), ?_⟩
  cases hr.trans H.symm
  exact ⟨A94, c95, A96, c97, rfl, O12, O13, hB⟩
 refine ⟨_, (O4.a 0), _, _, _, (O4.a 1), _, _, _, (O4.a 2), ?_⟩
 obtain ⟨hp102, H⟩ := H
 obtain ⟨r100, hr101, H⟩ := qad H
 refine (qcY.con hp102 hr101 (R0.ext hB) hc0 (R1_1.ext hB) hc1_1 (R1_2.ext hB) hc1_2).mono ?_
 rintro _ w103 ⟨A105, c106, rfl, P14, e104⟩
 have N6_14 := aN O6 P14
 have N14_8 := P14.qa8 O8.lt
 have O4 := O4.ext e104
 have O5 := O5.ext e104
 have O6 := O6.ext e104
 have O8 := O8.ext e104
 have O9 := O9.ext e104
 have O10 := O10.ext e104
 have O14 := P14.mono hB.size
 have hB := qa5 hB e104
 refine ⟨A105, r100.length, c106, rfl, ?_⟩
 refine qbI O8 (o := 2) (cs' := #[(iv r25.Number), (sv A30 r25.Frames.length c31), (sv A105 r100.length c106)]) rfl rfl (Nat.le_of_ble_eq_true rfl) rfl (fun w107 O8 e108 => ?_)
 have O4_ := O4.chg e108 N4_8
 have O5_ := O5.chg e108 N5_8
 have O6_ := O6.chg e108 N6_8
 have O9_ := O9.chg e108 (N8_9).symm
 have O10_ := O10.chg e108 (N8_10).symm
 have O14_ := O14.chg e108 N14_8
 have O4 := O4_
 have O5 := O5_
 have O6 := O6_
 have O9 := O9_
 have O10 := O10_
 have O14 := O14_
 have hB := echg hB e108 L8
 refine ⟨_, (O10.a 0), ?_⟩
 refine brc H (fun h H => ?_) fun h H => ?_
 ·refine ⟨_, _, _, (O8.a 1), ?_⟩
  obtain ⟨⟨h0_112, h1_113⟩, H⟩ := H
  obtain ⟨a110, ha111, hat109⟩ := Row.at O6.row h0_112 h1_113
  refine ⟨h0_112, h1_113, a110, ha111, ?_⟩
  refine Own.stA O6 ha111 h0_112 h1_113 0 (⟨(xs0.length : Int), (rd r25.Frames (wrap .i64 ((s1.Frames.length : Int) - 1))).Stop, (rd r25.Frames (wrap .i64 ((s1.Frames.length : Int) - 1))).Mask⟩ : D.Frame) (fun w114 O6 e115 hb116 => ?_)
  have O5 := O5.chg e115 (fun h_ => (N6_5) _ ha111 h_.symm)
  have O8_ := O8.chg e115 (fun h_ => (N6_8) _ ha111 h_.symm)
  have O14_ := O14.chg e115 (((N6_14).symm).left ha111)
  have O8 := O8_
  have O14 := O14_
  have hB := echg hB e115 hb116
  refine ⟨_, (O8.a 0), _, _, _, (O8.a 1), _, _, _, (O8.a 2), ?_⟩
  obtain ⟨hp119, H⟩ := H
  obtain ⟨r117, hr118, H⟩ := qad H
  refine (cllA (qaG.con hp119 hr118 (R0.ext hB) hc0 O6.row O6.le O14.row O14.le)).mono ?_
  rintro _ w120 ⟨A122, c123, A124, c125, rfl, P15, P16, e121⟩
  have N15_5 := P15.qa8 O5.lt
  have N16_5 := P16.qa8 O5.lt
  have O5 := O5.ext e121
  have O15 := P15.mono hB.size
  have O16 := P16.mono hB.size
  have hB := qa5 hB e121
  refine ⟨r117.Number, trivial, A122, r117.Frames.length, c123, trivial, A124, r117.Regs.length, c125, trivial, rfl, ?_⟩
  refine qbI O5 (o := 0) (cs' := (wC A122 c123 A124 c125 r117)) rfl rfl (Nat.le_of_ble_eq_true rfl) rfl (fun w126 O5 e127 => ?_)
  have O15 := O15.chg e127 N15_5
  have O16 := O16.chg e127 N16_5
  have hB := echg hB e127 L5
  refine ⟨_, (O5.a 0), _, _, _, (O5.a 1), _, _, _, (O5.a 2), ?_⟩
  cases hr.trans H.symm
  exact ⟨A122, c123, A124, c125, rfl, O15, O16, hB⟩
 refine brc H (fun h H => ?_) fun h H => ?_
 ·refine ⟨_, _, _, (O8.a 1), _, (O10.a 2), ?_⟩
  obtain ⟨⟨h0_131, h1_132⟩, H⟩ := H
  obtain ⟨a129, ha130, hat128⟩ := Row.at O6.row h0_131 h1_132
  refine ⟨h0_131, h1_132, a129, ha130, ?_⟩
  refine Own.stA O6 ha130 h0_131 h1_132 0 (⟨(rd xs0 ((rd s1.Frames (wrap .i64 ((s1.Frames.length : Int) - 1))).Pc)).B, (rd r25.Frames (wrap .i64 ((s1.Frames.length : Int) - 1))).Stop, (rd r25.Frames (wrap .i64 ((s1.Frames.length : Int) - 1))).Mask⟩ : D.Frame) (fun w133 O6 e134 hb135 => ?_)
  have O5 := O5.chg e134 (fun h_ => (N6_5) _ ha130 h_.symm)
  have O8_ := O8.chg e134 (fun h_ => (N6_8) _ ha130 h_.symm)
  have O14_ := O14.chg e134 (((N6_14).symm).left ha130)
  have O8 := O8_
  have O14 := O14_
  have hB := echg hB e134 hb135
  refine ⟨_, (O8.a 0), _, _, _, (O8.a 1), _, _, _, (O8.a 2), ?_⟩
  obtain ⟨hp138, H⟩ := H
  obtain ⟨r136, hr137, H⟩ := qad H
  refine (cllA (qaG.con hp138 hr137 (R0.ext hB) hc0 O6.row O6.le O14.row O14.le)).mono ?_
  rintro _ w139 ⟨A141, c142, A143, c144, rfl, P17, P18, e140⟩
  have N17_5 := P17.qa8 O5.lt
  have N18_5 := P18.qa8 O5.lt
  have O5 := O5.ext e140
  have O17 := P17.mono hB.size
  have O18 := P18.mono hB.size
  have hB := qa5 hB e140
  refine ⟨r136.Number, trivial, A141, r136.Frames.length, c142, trivial, A143, r136.Regs.length, c144, trivial, rfl, ?_⟩
  refine qbI O5 (o := 0) (cs' := (wC A141 c142 A143 c144 r136)) rfl rfl (Nat.le_of_ble_eq_true rfl) rfl (fun w145 O5 e146 => ?_)
  have O17 := O17.chg e146 N17_5
  have O18 := O18.chg e146 N18_5
  have hB := echg hB e146 L5
  refine ⟨_, (O5.a 0), _, _, _, (O5.a 1), _, _, _, (O5.a 2), ?_⟩
  cases hr.trans H.symm
  exact ⟨A141, c142, A143, c144, rfl, O17, O18, hB⟩
 refine ⟨_, _, _, (O8.a 1), _, (O9.a 0), ?_⟩
 obtain ⟨⟨h0_150, h1_151⟩, H⟩ := H
 obtain ⟨a148, ha149, hat147⟩ := Row.at O6.row h0_150 h1_151
 refine ⟨h0_150, h1_151, a148, ha149, ?_⟩
 refine Own.stA O6 ha149 h0_150 h1_151 0 (⟨(wrap .i64 ((rd s1.Frames (wrap .i64 ((s1.Frames.length : Int) - 1))).Pc + 1)), (rd r25.Frames (wrap .i64 ((s1.Frames.length : Int) - 1))).Stop, (rd r25.Frames (wrap .i64 ((s1.Frames.length : Int) - 1))).Mask⟩ : D.Frame) (fun w152 P6 e153 hb154 => ?_)
 have O4 := O4.chg e153 (fun h_ => (N6_4) _ ha149 h_.symm)
 have O5 := O5.chg e153 (fun h_ => (N6_5) _ ha149 h_.symm)
 have O8_ := O8.chg e153 (fun h_ => (N6_8) _ ha149 h_.symm)
 have O9 := O9.chg e153 (fun h_ => (N6_9) _ ha149 h_.symm)
 have O10 := O10.chg e153 (fun h_ => (N6_10) _ ha149 h_.symm)
 have O14_ := O14.chg e153 (((N6_14).symm).left ha149)
 have O8 := O8_
 have O14 := O14_
 have hB := echg hB e153 hb154
 have O6 := P6
 obtain ⟨K199, hKK199, H⟩ := qcR H
 refine ⟨fun z_ w_ => ∃ (b155 : Bool), z_ = (b155, ()) ∧ K199 (b155, ()) ∧ Ext w w_ ∧ Blk w_ g5_ 52 #[(iv 0), (sv none 0 0), (sv none 0 0)] ∧ Own el91 w_ w.heap.size A30 c31 (List.set r25.Frames ((wrap .i64 ((s1.Frames.length : Int) - 1)).toNat) (⟨(wrap .i64 ((rd s1.Frames (wrap .i64 ((s1.Frames.length : Int) - 1))).Pc + 1)), (rd r25.Frames (wrap .i64 ((s1.Frames.length : Int) - 1))).Stop, (rd r25.Frames (wrap .i64 ((s1.Frames.length : Int) - 1))).Mask⟩ : D.Frame)) ∧ Blk w_ g8_ 52 #[(iv r25.Number), (sv A30 r25.Frames.length c31), (sv A105 r100.length c106)] ∧ Blk w_ g10_ 84 #[(iv ((rd xs0 ((rd s1.Frames (wrap .i64 ((s1.Frames.length : Int) - 1))).Pc)).Op)), (iv ((rd xs0 ((rd s1.Frames (wrap .i64 ((s1.Frames.length : Int) - 1))).Pc)).A)), (iv ((rd xs0 ((rd s1.Frames (wrap .i64 ((s1.Frames.length : Int) - 1))).Pc)).B)), (iv ((rd xs0 ((rd s1.Frames (wrap .i64 ((s1.Frames.length : Int) - 1))).Pc)).C))] ∧ Own el3 w_ w.heap.size A105 c106 r100, ?_, ?_⟩
 ·refine ⟨(fun _ => False), _, noM (O10.a 0), ?_⟩
  refine brc H (fun h H => ?_) fun h H => ?_
  ·refine ⟨_, noM (O4.a 0), _, _, _, noM (O4.a 1), _, _, _, noM (O4.a 2), _, noM (O10.a 1), _, noM (O9.a 2), ?_⟩
   have O5 := O5.ext (Ext.drew _)
   have O6 := O6.ext (Ext.drew _)
   have O8 := O8.ext (Ext.drew _)
   have O10 := O10.ext (Ext.drew _)
   have O14 := O14.ext (Ext.drew _)
   have hB := qa5 hB (Ext.drew _)
   have hS159 := (Chg.refl (fun _ => False) w152).then (Ext.drew _)
   obtain ⟨hp162, H⟩ := H
   obtain ⟨r160, hr161, H⟩ := qad H
   refine (qaO.con hp162 hr161 (R1_1.ext hB) hc1_1 (R1_2.ext hB) hc1_2).mono ?_
   rintro _ w163 ⟨rfl, e164⟩
   have O5 := O5.ext e164
   have O6 := O6.ext e164
   have O8 := O8.ext e164
   have O10 := O10.ext e164
   have O14 := O14.ext e164
   have hB := qa5 hB e164
   have hS159 := hS159.then e164
   refine ⟨r160, rfl, qa2 hS159, ?_⟩
   exact ⟨_, rfl, H, hB, O5, O6, (by first | exact O8 | (simp only [bC, wC, List.length_set]; exact O8)), O10, O14⟩
  have O5 := O5.ext (Ext.drew _)
  have O6 := O6.ext (Ext.drew _)
  have O8 := O8.ext (Ext.drew _)
  have O10 := O10.ext (Ext.drew _)
  have O14 := O14.ext (Ext.drew _)
  have hB := qa5 hB (Ext.drew _)
  exact ⟨_, rfl, H, hB, O5, O6, (by first | exact O8 | (simp only [bC, wC, List.length_set]; exact O8)), O10, O14⟩
 rintro _ w157 ⟨b155, rfl, H, hB, O5, O6, O8, O10, O14⟩
 have H := hKK199 _ H
 try dsimp only at H ⊢
 refine brc H (fun h H => ?_) fun h H => ?_
 ·refine ⟨_, _, _, (O8.a 1), _, (O10.a 2), ?_⟩
  obtain ⟨⟨h0_169, h1_170⟩, H⟩ := H
  obtain ⟨a167, ha168, hat166⟩ := Row.at O6.row h0_169 h1_170
  refine ⟨h0_169, (by first | exact h1_170 | omega | (simp at h1_170 ⊢; omega)), a167, ha168, ?_⟩
  have hrd174 := qno h0_169 h1_170
  refine Own.storeAt O6 ha168 h0_169 h1_170 0 [(iv ((rd xs0 ((rd s1.Frames (wrap .i64 ((s1.Frames.length : Int) - 1))).Pc)).B))] (⟨(rd xs0 ((rd s1.Frames (wrap .i64 ((s1.Frames.length : Int) - 1))).Pc)).B, (rd r25.Frames (wrap .i64 ((s1.Frames.length : Int) - 1))).Stop, (rd r25.Frames (wrap .i64 ((s1.Frames.length : Int) - 1))).Mask⟩ : D.Frame) (by rw [hrd174]; rfl) (Nat.le_of_ble_eq_true rfl) rfl (fun w171 O6 e172 hb173 => ?_)
  rw [List.set_set] at O6
  have O5 := O5.chg e172 (fun h_ => (N6_5) _ ha168 h_.symm)
  have O8_ := O8.chg e172 (fun h_ => (N6_8) _ ha168 h_.symm)
  have O14_ := O14.chg e172 (((N6_14).symm).left ha168)
  have O8 := O8_
  have O14 := O14_
  have hB := echg hB e172 hb173
  refine ⟨_, (O8.a 0), _, _, _, (O8.a 1), _, _, _, (O8.a 2), ?_⟩
  obtain ⟨hp177, H⟩ := H
  obtain ⟨r175, hr176, H⟩ := qad H
  refine (cllA (qaG.con hp177 hr176 (R0.ext hB) hc0 O6.row O6.le O14.row O14.le)).mono ?_
  rintro _ w178 ⟨A180, c181, A182, c183, rfl, P19, P20, e179⟩
  have N19_5 := P19.qa8 O5.lt
  have N20_5 := P20.qa8 O5.lt
  have O5 := O5.ext e179
  have O19 := P19.mono hB.size
  have O20 := P20.mono hB.size
  have hB := qa5 hB e179
  refine ⟨r175.Number, trivial, A180, r175.Frames.length, c181, trivial, A182, r175.Regs.length, c183, trivial, rfl, ?_⟩
  refine qbI O5 (o := 0) (cs' := (wC A180 c181 A182 c183 r175)) rfl rfl (Nat.le_of_ble_eq_true rfl) rfl (fun w184 O5 e185 => ?_)
  have O19 := O19.chg e185 N19_5
  have O20 := O20.chg e185 N20_5
  have hB := echg hB e185 L5
  refine ⟨_, (O5.a 0), _, _, _, (O5.a 1), _, _, _, (O5.a 2), ?_⟩
  cases hr.trans H.symm
  exact ⟨A180, c181, A182, c183, rfl, O19, O20, hB⟩
 refine ⟨_, (O8.a 0), _, _, _, (O8.a 1), _, _, _, (O8.a 2), ?_⟩
 obtain ⟨hp188, H⟩ := H
 obtain ⟨r186, hr187, H⟩ := qad H
 refine (cllA (qaG.con hp188 hr187 (R0.ext hB) hc0 O6.row O6.le O14.row O14.le)).mono ?_
 rintro _ w189 ⟨A191, c192, A193, c194, rfl, P21, P22, e190⟩
 have N21_5 := P21.qa8 O5.lt
 have N22_5 := P22.qa8 O5.lt
 have O5 := O5.ext e190
 have O21 := P21.mono hB.size
 have O22 := P22.mono hB.size
 have hB := qa5 hB e190
 refine ⟨r186.Number, trivial, A191, r186.Frames.length, c192, trivial, A193, r186.Regs.length, c194, trivial, rfl, ?_⟩
 refine qbI O5 (o := 0) (cs' := (wC A191 c192 A193 c194 r186)) rfl rfl (Nat.le_of_ble_eq_true rfl) rfl (fun w195 O5 e196 => ?_)
 have O21 := O21.chg e196 N21_5
 have O22 := O22.chg e196 N22_5
 have hB := echg hB e196 L5
 refine ⟨_, (O5.a 0), _, _, _, (O5.a 1), _, _, _, (O5.a 2), ?_⟩
 cases hr.trans H.symm
 exact ⟨A191, c192, A193, c194, rfl, O21, O22, hB⟩
def qaM.vc (p0 : Addr) (A1 : OA) (n1 c1 : Nat) (w : World) (K : VK) : Prop :=
  ldS w ((p0.add 1).add 0) fun A21 n22 c23 => qa1 (decide ((wrap .i64 (((n22 : Nat) : Int) + 2)) > 24)) (K (.bool false) w) (ldS w ((p0.add 1).add 0) fun A24 n25 c26 => ldS w ((p0.add 1).add 0) fun A27 n28 c29 => (idx (wrap .i64 (((n28 : Nat) : Int) - 1)) n25 A24 fun a30 => ∃ (n31 : Int), w.drew.cell? (((a30.add (((wrap .i64 (((n28 : Nat) : Int) - 1)).toNat) * 3)).add 0).add 0) = some (iv n31) ∧ ∃ (n32 : Int), w.drew.cell? (((a30.add (((wrap .i64 (((n28 : Nat) : Int) - 1)).toNat) * 3)).add 2).add 0) = some (iv n32) ∧ (∃ M33 : Nat → Prop, ∃ (n34 : Int), (¬ M33 (p0).block ∧ w.drew.drew.cell? (p0.add 0) = some (iv n34)) ∧ ∃ (A35 : OA) (n36 c37 : Nat), (¬ M33 (p0).block ∧ w.drew.drew.cell? (p0.add 1) = some (sv A35 n36 c37)) ∧ ∃ (A38 : OA) (n39 c40 : Nat), (¬ M33 (p0).block ∧ w.drew.drew.cell? (p0.add 2) = some (sv A38 n39 c40)) ∧ (idx n31 n1 A1 fun a41 => ∃ (n42 : Int), (¬ M33 (((a41.add ((n31.toNat) * 4)).add 1)).block ∧ w.drew.drew.cell? (((a41.add ((n31.toNat) * 4)).add 1).add 0) = some (iv n42)) ∧ Cl 166 #[(.agg #[(iv n34), (sv A35 n36 c37), (sv A38 n39 c40)]), (iv n42)] w.drew.drew.drew fun v43 w44 => (∃ (n45 : Int), v43 = (iv n45) ∧ qac M33 w.drew.drew w44 ∧ Cl 151 #[(sv A1 n1 c1), (iv n31)] w44 fun v46 w47 => (∃ (n48 : Int), v46 = (iv n48) ∧ qa7 ((a30.add (((wrap .i64 (((n28 : Nat) : Int) - 1)).toNat) * 3)).add 0) [(iv n48)] 0 w47 fun w49 => (idx n31 n1 A1 fun a50 => ((∃ (A51 : OA) (n52 c53 : Nat), w49.drew.cell? ((p0.add 1).add 0) = some (sv A51 n52 c53) ∧ ((∃ (n54 : Int), w49.drew.cell? (((a50.add ((n31.toNat) * 4)).add 2).add 0) = some (iv n54) ∧ ((Run Tryz.prog (Instr.buildSlice 50 2 #[(0, (.agg #[(iv (wrap .i64 (n31 + 1))), (iv n48), (iv (qeY .i64 n32 n45))])), (1, (.agg #[(iv n54), (iv n48), (iv n45)]))]) w49.drew fun v55 w56 => ∃ (A57 : OA) (n58 c59 : Nat), v55 = .slice A57 n58 c59 ∧ ((Run Tryz.prog (Builtin.append_ #[50, 50] 50 #[(sv A51 n52 c53), (sv A57 n58 c59)]) w56 fun v60 w61 => ∃ (A62 : OA) (n63 c64 : Nat), v60 = .slice A62 n63 c64 ∧ ((qa7 (p0.add 1) [(sv A62 n63 c64)] 0 w61 fun w65 => K (.bool true) w65) ∧ True)) ∧ True)) ∧ True)) ∧ True)) ∧ (∃ (n66 : Int), w49.drew.cell? (((a50.add ((n31.toNat) * 4)).add 2).add 0) = some (iv n66) ∧ ((∃ (A67 : OA) (n68 c69 : Nat), w49.drew.cell? ((p0.add 1).add 0) = some (sv A67 n68 c69) ∧ ((Run Tryz.prog (Instr.buildSlice 50 2 #[(0, (.agg #[(iv (wrap .i64 (n31 + 1))), (iv n48), (iv (qeY .i64 n32 n45))])), (1, (.agg #[(iv n66), (iv n48), (iv n45)]))]) w49.drew fun v70 w71 => ∃ (A72 : OA) (n73 c74 : Nat), v70 = .slice A72 n73 c74 ∧ ((Run Tryz.prog (Builtin.append_ #[50, 50] 50 #[(sv A67 n68 c69), (sv A72 n73 c74)]) w71 fun v75 w76 => ∃ (A77 : OA) (n78 c79 : Nat), v75 = .slice A77 n78 c79 ∧ ((qa7 (p0.add 1) [(sv A77 n78 c79)] 0 w76 fun w80 => K (.bool true) w80) ∧ True)) ∧ True)) ∧ True)) ∧ (Run Tryz.prog (Instr.buildSlice 50 2 #[(0, (.agg #[(iv (wrap .i64 (n31 + 1))), (iv n48), (iv (qeY .i64 n32 n45))])), (1, (.agg #[(iv n66), (iv n48), (iv n45)]))]) w49.drew fun v81 w82 => ∃ (A83 : OA) (n84 c85 : Nat), v81 = .slice A83 n84 c85 ∧ ((ldS w82 ((p0.add 1).add 0) fun A86 n87 c88 => ((Run Tryz.prog (Builtin.append_ #[50, 50] 50 #[(sv A86 n87 c88), (sv A83 n84 c85)]) w82 fun v89 w90 => ∃ (A91 : OA) (n92 c93 : Nat), v89 = .slice A91 n92 c93 ∧ ((qa7 (p0.add 1) [(sv A91 n92 c93)] 0 w90 fun w94 => K (.bool true) w94) ∧ True)) ∧ True)) ∧ True)) ∧ True)) ∧ True))))))))

def qaM.ann : Ann := (.seq .l (.seq (.seq .l (.two (.seq .l .l) .l)) (.seq .l (.seq .l (.seq .l (.seq .l (.seq .l (.seq .each (.seq .l .l)))))))))

theorem qaM.con {s0 : D.Warp} {g1_ c0_1 c0_2 o1_ c1 : Nat} {A0_1 A0_2 A1 : OA} {R1_ : Array Value} {xs1 : List D.Ins} {r : Bool × D.Warp} {w : World} (hp : M.qeB s0 xs1) (hr : r = M.qaM s0 xs1) (O1 : Plc w g1_ o1_ 52 R1_ (wC A0_1 c0_1 A0_2 c0_2 s0)) (O2 : Own el91 w 0 A0_1 c0_1 s0.Frames) (R0_2 : Row el3 w A0_2 s0.Regs) (hc0_2 : s0.Regs.length ≤ c0_2) (R1 : Row el84 w A1 xs1) (hc1 : xs1.length ≤ c1) (D0_2 : s0.Regs ≠ [] → ∀ g, InB A0_2 g → ¬ (fun k_ => InB A0_1 k_ ∨ k_ = g1_) g) (D1 : xs1 ≠ [] → ∀ g, InB A1 g → ¬ (fun k_ => InB A0_1 k_ ∨ k_ = g1_) g) :
    Cl 171 #[(.pointer (some (⟨g1_, o1_, none⟩ : Addr))), (sv A1 xs1.length c1)] w (fun v_ w_ => ∃ (A0_ : OA) (c0_ : Nat), v_ = (.bool r.1) ∧ Plc w_ g1_ o1_ 52 R1_ (wC A0_ c0_ A0_2 c0_2 r.2) ∧ Own el91 w_ 0 A0_ c0_ r.2.Frames ∧ Mov w A0_1 A0_ ∧ r.2.Regs = s0.Regs ∧ Chg (fun k_ => InB A0_1 k_ ∨ k_ = g1_) w w_) := by
 have H := wp.qaM.math s0 xs1 hp
 have hB := Chg.refl (fun k_ => InB A0_1 k_ ∨ k_ = g1_) w
 refine begK mixed Tryz.f171 ann (vc (⟨g1_, o1_, none⟩ : Addr) A1 xs1.length c1) ?_
 unfold vc
 unfold wp.qaM at H
 refine ⟨_, _, _, (O1.a 1), ?_⟩
 refine brc H (fun h H => ?_) fun h H => ?_
 ·cases hr.trans H.symm
  exact ⟨A0_1, c0_1, rfl, O1, (O2.mono (Nat.zero_le _)), (Mov.same _ _), rfl, hB⟩
 refine ⟨_, _, _, (O1.a 1), _, _, _, (O1.a 1), ?_⟩
 obtain ⟨⟨h0_25, h1_26⟩, H⟩ := H
 obtain ⟨a23, ha24, hat22⟩ := Row.at O2.row h0_25 h1_26
 refine ⟨h0_25, h1_26, a23, ha24, ?_⟩
 have O2 := O2.ext (Ext.drew _)
 have hat28 := Row.re O2.row ha24 h0_25 (by first | exact h1_26 | omega | (simp at h1_26 ⊢; omega))
 refine ⟨_, (hat28 0 _ rfl), ?_⟩
 have hat29 := Row.re O2.row ha24 h0_25 (by first | exact h1_26 | omega | (simp at h1_26 ⊢; omega))
 refine ⟨_, (hat29 2 _ rfl), ?_⟩
 have O1 := (O1.ext (Ext.drew _)).ext (Ext.drew _)
 have hB := (hB.then (Ext.drew _)).then (Ext.drew _)
 refine ⟨(fun _ => False), _, noM (O1.a 0), _, _, _, noM (O1.a 1), _, _, _, noM (O1.a 2), ?_⟩
 obtain ⟨⟨h0_34, h1_35⟩, H⟩ := H
 obtain ⟨a32, ha33, hat31⟩ := Row.at (R1.chgS hB D1) h0_34 h1_35
 refine ⟨h0_34, h1_35, a32, ha33, _, ⟨(fun h_ => h_), (hat31 1 _ rfl)⟩, ?_⟩
 have O1 := O1.ext (Ext.drew _)
 have O2 := (O2.ext (Ext.drew _)).ext (Ext.drew _)
 have hB := hB.then (Ext.drew _)
 have hS30 := (Chg.refl (fun _ => False) w.drew.drew).then (Ext.drew _)
 obtain ⟨hp38, H⟩ := H
 obtain ⟨r36, hr37, H⟩ := qad H
 refine (qaN.con hp38 hr37 O2.row O2.le (R0_2.chgS hB D0_2) hc0_2).mono ?_
 rintro _ w39 ⟨rfl, e40⟩
 have hB := hB.then e40
 have hS30 := hS30.then e40
 refine ⟨r36, rfl, qa2 hS30, ?_⟩
 obtain ⟨hp43, H⟩ := H
 obtain ⟨r41, hr42, H⟩ := qad H
 refine (qde.con hp43 hr42 (R1.chgS hB D1) hc1).mono ?_
 rintro _ w44 ⟨rfl, e45⟩
 have O1 := (O1.ext e40).ext e45
 have O2 := (O2.ext e40).ext e45
 refine ⟨r41, rfl, ?_⟩
 refine Own.stA O2 ha24 h0_25 h1_26 0 (⟨r41, (rd s0.Frames (wrap .i64 ((s0.Frames.length : Int) - 1))).Stop, (rd s0.Frames (wrap .i64 ((s0.Frames.length : Int) - 1))).Mask⟩ : D.Frame) (fun w46 P2 e47 hb48 => ?_)
 have O1 := O1.chg e47 (fun h_ => ((O2.qa6 O1.b (by decide))) _ ha24 h_.symm)
 have O1 := O1.ext (Ext.drew _)
 have O2 := P2.ext (Ext.drew _)
 have hB := ((hB.then e45).chgb e47 (Or.inr (Or.inl ⟨_, ha24, rfl⟩))).then (Ext.drew _)
 obtain ⟨⟨h0_52, h1_53⟩, H⟩ := H
 obtain ⟨a50, ha51, hat49⟩ := Row.at (R1.chgS hB D1) h0_52 h1_53
 refine ⟨h0_52, h1_53, a50, ha51, ?_⟩
 refine And.intro ?_ ?_
 ·have H := H.1
  refine ⟨_, _, _, (O1.a 1), ?_⟩
  refine qd2 ?_
  refine ⟨_, (hat49 2 _ rfl), ?_⟩
  refine qd2 ?_
  refine qap el91 ([(⟨(wrap .i64 ((rd s0.Frames (wrap .i64 ((s0.Frames.length : Int) - 1))).Pc + 1)), r41, (qeY .i64 ((rd s0.Frames (wrap .i64 ((s0.Frames.length : Int) - 1))).Mask) r36)⟩ : D.Frame), (⟨(rd xs1 ((rd s0.Frames (wrap .i64 ((s0.Frames.length : Int) - 1))).Pc)).B, r41, r36⟩ : D.Frame)] : List D.Frame) (fun _ => by kernel_rfl) rfl (fun A54 w55 P5 e56 => ?_)
  have O1 := O1.ext e56
  have O2 := O2.ext e56
  have O5 := P5.mono hB.size
  have hB := hB.then e56
  refine qd2 ?_
  have O6 := O2
  have Mv6 := Mov.same w A0_1
  obtain ⟨hl61, H⟩ := H
  refine qgZ qja qja.under O6 O5.row (Nat.zero_le _) (by first | rfl | omega | (simp; done) | (simp; omega)) (by first | rfl | omega | (simp; done) | (simp; omega)) hl61 (fun A57 c58 w59 P6 e60 => ?_)
  have N6_1 := Apart.app (O6.qa6 O1.b (by decide)) e60 O1.lt
  have O1 := O1.app e60 (O6.qa6 O1.b (by decide))
  have hBs_ := hB.size
  have Mw6 := Mov.trans Mv6 e60.blk hBs_
  refine qd2 ?_
  refine qmx O1 (j := 1) (cs' := #[(iv s0.Number), (sv A57 ((((List.set s0.Frames ((wrap .i64 ((s0.Frames.length : Int) - 1)).toNat) (⟨r41, (rd s0.Frames (wrap .i64 ((s0.Frames.length : Int) - 1))).Stop, (rd s0.Frames (wrap .i64 ((s0.Frames.length : Int) - 1))).Mask⟩ : D.Frame)) ++ ([(⟨(wrap .i64 ((rd s0.Frames (wrap .i64 ((s0.Frames.length : Int) - 1))).Pc + 1)), r41, (qeY .i64 ((rd s0.Frames (wrap .i64 ((s0.Frames.length : Int) - 1))).Mask) r36)⟩ : D.Frame), (⟨(rd xs1 ((rd s0.Frames (wrap .i64 ((s0.Frames.length : Int) - 1))).Pc)).B, r41, r36⟩ : D.Frame)] : List D.Frame))).length) c58), (sv A0_2 s0.Regs.length c0_2)]) rfl rfl (Nat.le_of_ble_eq_true rfl) rfl (fun w62 O1 e63 => ?_)
  have O6 := P6.chg e63 N6_1
  have hB := (hB.app e60 (fun g h_ => (qh4 Mv6 h_ (fun h_ => (Or.inl h_))))).chgb e63 (Or.inr (Or.inr rfl))
  cases hr.trans H.symm
  exact ⟨A57, c58, rfl, O1, (O6.mono (Nat.zero_le _)), Mw6, rfl, hB⟩
 refine And.intro ?_ ?_
 ·have H := H.2.1
  refine ⟨_, (hat49 2 _ rfl), ?_⟩
  refine And.intro ?_ ?_
  ·have H := H.1
   refine ⟨_, _, _, (O1.a 1), ?_⟩
   refine qd2 ?_
   refine qap el91 ([(⟨(wrap .i64 ((rd s0.Frames (wrap .i64 ((s0.Frames.length : Int) - 1))).Pc + 1)), r41, (qeY .i64 ((rd s0.Frames (wrap .i64 ((s0.Frames.length : Int) - 1))).Mask) r36)⟩ : D.Frame), (⟨(rd xs1 ((rd s0.Frames (wrap .i64 ((s0.Frames.length : Int) - 1))).Pc)).B, r41, r36⟩ : D.Frame)] : List D.Frame) (fun _ => by kernel_rfl) rfl (fun A64 w65 P7 e66 => ?_)
   have O1 := O1.ext e66
   have O2 := O2.ext e66
   have O7 := P7.mono hB.size
   have hB := hB.then e66
   refine qd2 ?_
   have O8 := O2
   have Mv8 := Mov.same w A0_1
   obtain ⟨hl71, H⟩ := H
   refine qgZ qja qja.under O8 O7.row (Nat.zero_le _) (by first | rfl | omega | (simp; done) | (simp; omega)) (by first | rfl | omega | (simp; done) | (simp; omega)) hl71 (fun A67 c68 w69 P8 e70 => ?_)
   have N8_1 := Apart.app (O8.qa6 O1.b (by decide)) e70 O1.lt
   have O1 := O1.app e70 (O8.qa6 O1.b (by decide))
   have hBs_ := hB.size
   have Mw8 := Mov.trans Mv8 e70.blk hBs_
   refine qd2 ?_
   refine qmx O1 (j := 1) (cs' := #[(iv s0.Number), (sv A67 ((((List.set s0.Frames ((wrap .i64 ((s0.Frames.length : Int) - 1)).toNat) (⟨r41, (rd s0.Frames (wrap .i64 ((s0.Frames.length : Int) - 1))).Stop, (rd s0.Frames (wrap .i64 ((s0.Frames.length : Int) - 1))).Mask⟩ : D.Frame)) ++ ([(⟨(wrap .i64 ((rd s0.Frames (wrap .i64 ((s0.Frames.length : Int) - 1))).Pc + 1)), r41, (qeY .i64 ((rd s0.Frames (wrap .i64 ((s0.Frames.length : Int) - 1))).Mask) r36)⟩ : D.Frame), (⟨(rd xs1 ((rd s0.Frames (wrap .i64 ((s0.Frames.length : Int) - 1))).Pc)).B, r41, r36⟩ : D.Frame)] : List D.Frame))).length) c68), (sv A0_2 s0.Regs.length c0_2)]) rfl rfl (Nat.le_of_ble_eq_true rfl) rfl (fun w72 O1 e73 => ?_)
   have O8 := P8.chg e73 N8_1
   have hB := (hB.app e70 (fun g h_ => (qh4 Mv8 h_ (fun h_ => (Or.inl h_))))).chgb e73 (Or.inr (Or.inr rfl))
   cases hr.trans H.symm
   exact ⟨A67, c68, rfl, O1, (O8.mono (Nat.zero_le _)), Mw8, rfl, hB⟩
  refine And.intro ?_ ?_
  ·have H := H.2.1
   refine qap el91 ([(⟨(wrap .i64 ((rd s0.Frames (wrap .i64 ((s0.Frames.length : Int) - 1))).Pc + 1)), r41, (qeY .i64 ((rd s0.Frames (wrap .i64 ((s0.Frames.length : Int) - 1))).Mask) r36)⟩ : D.Frame), (⟨(rd xs1 ((rd s0.Frames (wrap .i64 ((s0.Frames.length : Int) - 1))).Pc)).B, r41, r36⟩ : D.Frame)] : List D.Frame) (fun _ => by kernel_rfl) rfl (fun A74 w75 P9 e76 => ?_)
   have O1 := O1.ext e76
   have O2 := O2.ext e76
   have O9 := P9.mono hB.size
   have hB := hB.then e76
   refine qd2 ?_
   refine ⟨_, _, _, (O1.a 1), ?_⟩
   refine qd2 ?_
   have O10 := O2
   have Mv10 := Mov.same w A0_1
   obtain ⟨hl81, H⟩ := H
   refine qgZ qja qja.under O10 O9.row (Nat.zero_le _) (by first | rfl | omega | (simp; done) | (simp; omega)) (by first | rfl | omega | (simp; done) | (simp; omega)) hl81 (fun A77 c78 w79 P10 e80 => ?_)
   have N10_1 := Apart.app (O10.qa6 O1.b (by decide)) e80 O1.lt
   have O1 := O1.app e80 (O10.qa6 O1.b (by decide))
   have hBs_ := hB.size
   have Mw10 := Mov.trans Mv10 e80.blk hBs_
   refine qd2 ?_
   refine qmx O1 (j := 1) (cs' := #[(iv s0.Number), (sv A77 ((((List.set s0.Frames ((wrap .i64 ((s0.Frames.length : Int) - 1)).toNat) (⟨r41, (rd s0.Frames (wrap .i64 ((s0.Frames.length : Int) - 1))).Stop, (rd s0.Frames (wrap .i64 ((s0.Frames.length : Int) - 1))).Mask⟩ : D.Frame)) ++ ([(⟨(wrap .i64 ((rd s0.Frames (wrap .i64 ((s0.Frames.length : Int) - 1))).Pc + 1)), r41, (qeY .i64 ((rd s0.Frames (wrap .i64 ((s0.Frames.length : Int) - 1))).Mask) r36)⟩ : D.Frame), (⟨(rd xs1 ((rd s0.Frames (wrap .i64 ((s0.Frames.length : Int) - 1))).Pc)).B, r41, r36⟩ : D.Frame)] : List D.Frame))).length) c78), (sv A0_2 s0.Regs.length c0_2)]) rfl rfl (Nat.le_of_ble_eq_true rfl) rfl (fun w82 O1 e83 => ?_)
   have O10 := P10.chg e83 N10_1
   have hB := (hB.app e80 (fun g h_ => (qh4 Mv10 h_ (fun h_ => (Or.inl h_))))).chgb e83 (Or.inr (Or.inr rfl))
   cases hr.trans H.symm
   exact ⟨A77, c78, rfl, O1, (O10.mono (Nat.zero_le _)), Mw10, rfl, hB⟩
  exact trivial
 exact trivial
def qb3.vc (x0_0 x0_1 x0_2 x0_3 x1 : Int) (A2 : OA) (n2 c2 : Nat) (w : World) (K : VK) : Prop :=
  newK w (.cells #[(iv x0_0), (iv x0_1), (iv x0_2), (iv x0_3)] 84) fun g21 w22 => ldI w22 (((bx g21).add 0).add 0) fun n23 => qa1 (n23 == 1) (ldI w22 (((bx g21).add 1).add 0) fun n24 => ldI w22 (((bx g21).add 2).add 0) fun n25 => (idx n24 n2 A2 fun a26 => qa7 (a26.add ((n24.toNat) * 1)) [(iv n25)] 0 w22 fun w27 => K (.tuple #[]) w27)) (qa1 (n23 == 2) ((∃ M28 : Nat → Prop, ldIM M28 w22 ((bx g21).add 1) 0 fun n29 => ldIM M28 w22 ((bx g21).add 2) 0 fun n30 => (idx n30 n2 A2 fun a31 => ldIM M28 w22 (a31.add ((n30.toNat) * 1)) 0 fun n32 => (idx n29 n2 A2 fun a33 => qa7 (a33.add ((n29.toNat) * 1)) [(iv n32)] 0 w22.drew fun w34 => K (.tuple #[]) w34)))) (qa1 (n23 == 3) ((∃ M35 : Nat → Prop, ldIM M35 w22 ((bx g21).add 1) 0 fun n36 => ldIM M35 w22 ((bx g21).add 2) 0 fun n37 => (idx n37 n2 A2 fun a38 => ldIM M35 w22 (a38.add ((n37.toNat) * 1)) 0 fun n39 => ldIM M35 w22 ((bx g21).add 3) 0 fun n40 => (idx n40 n2 A2 fun a41 => ldIM M35 w22 (a41.add ((n40.toNat) * 1)) 0 fun n42 => Cl 173 #[(iv n39), (iv n42)] w22.drew fun v43 w44 => (∃ (n45 : Int), v43 = (iv n45) ∧ qac M35 w22 w44 ∧ (idx n36 n2 A2 fun a46 => qa7 (a46.add ((n36.toNat) * 1)) [(iv n45)] 0 w44 fun w47 => K (.tuple #[]) w47)))))) (qa1 (n23 == 4) ((∃ M48 : Nat → Prop, ldIM M48 w22 ((bx g21).add 1) 0 fun n49 => ldIM M48 w22 ((bx g21).add 2) 0 fun n50 => (idx n50 n2 A2 fun a51 => ldIM M48 w22 (a51.add ((n50.toNat) * 1)) 0 fun n52 => ldIM M48 w22 ((bx g21).add 3) 0 fun n53 => (idx n53 n2 A2 fun a54 => ldIM M48 w22 (a54.add ((n53.toNat) * 1)) 0 fun n55 => Cl 225 #[(iv n52), (iv n55)] w22.drew fun v56 w57 => (∃ (n58 : Int), v56 = (iv n58) ∧ qac M48 w22 w57 ∧ (idx n49 n2 A2 fun a59 => qa7 (a59.add ((n49.toNat) * 1)) [(iv n58)] 0 w57 fun w60 => K (.tuple #[]) w60)))))) (qa1 (n23 == 5) ((∃ M61 : Nat → Prop, ldIM M61 w22 ((bx g21).add 1) 0 fun n62 => ldIM M61 w22 ((bx g21).add 2) 0 fun n63 => (idx n63 n2 A2 fun a64 => ldIM M61 w22 (a64.add ((n63.toNat) * 1)) 0 fun n65 => ldIM M61 w22 ((bx g21).add 3) 0 fun n66 => (idx n66 n2 A2 fun a67 => ldIM M61 w22 (a67.add ((n66.toNat) * 1)) 0 fun n68 => Cl 226 #[(iv n65), (iv n68)] w22.drew fun v69 w70 => (∃ (n71 : Int), v69 = (iv n71) ∧ qac M61 w22 w70 ∧ (idx n62 n2 A2 fun a72 => qa7 (a72.add ((n62.toNat) * 1)) [(iv n71)] 0 w70 fun w73 => K (.tuple #[]) w73)))))) (qa1 (n23 == 6) ((∃ M74 : Nat → Prop, ldIM M74 w22 ((bx g21).add 1) 0 fun n75 => ldIM M74 w22 ((bx g21).add 2) 0 fun n76 => (idx n76 n2 A2 fun a77 => ldIM M74 w22 (a77.add ((n76.toNat) * 1)) 0 fun n78 => ldIM M74 w22 ((bx g21).add 3) 0 fun n79 => (idx n79 n2 A2 fun a80 => ldIM M74 w22 (a80.add ((n79.toNat) * 1)) 0 fun n81 => (idx n75 n2 A2 fun a82 => qa7 (a82.add ((n75.toNat) * 1)) [(iv (qgK .i64 n78 n81))] 0 w22.drew fun w83 => K (.tuple #[]) w83))))) (qa1 (n23 == 7) ((∃ M84 : Nat → Prop, ldIM M84 w22 ((bx g21).add 1) 0 fun n85 => ldIM M84 w22 ((bx g21).add 2) 0 fun n86 => (idx n86 n2 A2 fun a87 => ldIM M84 w22 (a87.add ((n86.toNat) * 1)) 0 fun n88 => ldIM M84 w22 ((bx g21).add 3) 0 fun n89 => (idx n89 n2 A2 fun a90 => ldIM M84 w22 (a90.add ((n89.toNat) * 1)) 0 fun n91 => Cl 227 #[(iv n88), (iv n91)] w22.drew fun v92 w93 => (∃ (n94 : Int), v92 = (iv n94) ∧ qac M84 w22 w93 ∧ (idx n85 n2 A2 fun a95 => qa7 (a95.add ((n85.toNat) * 1)) [(iv n94)] 0 w93 fun w96 => K (.tuple #[]) w96)))))) (qa1 (n23 == 8) (ldI w22 (((bx g21).add 1).add 0) fun n97 => (idx n97 n2 A2 fun a98 => qa7 (a98.add ((n97.toNat) * 1)) [(iv x1)] 0 w22 fun w99 => K (.tuple #[]) w99)) (qa1 (n23 == 9) (ldI w22 (((bx g21).add 3).add 0) fun n100 => (idx n100 n2 A2 fun a101 => ldI w22 ((a101.add ((n100.toNat) * 1)).add 0) fun n102 => qa1 (n102 != 0) ((∃ M103 : Nat → Prop, ldIM M103 w22 ((bx g21).add 1) 0 fun n104 => ldIM M103 w22 ((bx g21).add 2) 0 fun n105 => (idx n105 n2 A2 fun a106 => ldIM M103 w22 (a106.add ((n105.toNat) * 1)) 0 fun n107 => (idx n104 n2 A2 fun a108 => qa7 (a108.add ((n104.toNat) * 1)) [(iv n107)] 0 w22.drew fun w109 => K (.tuple #[]) w109)))) (K (.tuple #[]) w22))) (K (.tuple #[]) w22)))))))))

def qb3.ann : Ann := (.seq .l (.seq .l (.one (.seq .l (.two .l (.seq .l (.two .l (.seq .l (.two .l (.seq .l (.two .l (.seq .l (.two .l (.seq .l (.two .l (.seq .l (.two .l (.seq .l (.two .l (.seq .l (.two (.seq .l (.two .l .l)) .l)))))))))))))))))))))

theorem qb3.con {s0 : D.Ins} {x1 : Int} {xs2 : List Int} {lo2 hi2 c2 : Nat} {A2 : OA} {r : (List Int)} {w : World} (hp : M.qgm s0 x1 xs2 lo2 hi2) (hr : r = M.qb3 s0 x1 xs2 lo2 hi2) (O1 : Own el3 w 0 A2 c2 xs2) (hv2 : lo2 ≤ (List.take hi2 xs2).length) :
    Cl 206 #[(.agg (iC s0)), (iv x1), (sv (cutA c2 lo2 A2 1) ((List.drop lo2 (List.take hi2 xs2)).length) (c2 - lo2))] w (fun v_ w_ => v_ = (.tuple #[]) ∧ Own el3 w_ 0 A2 c2 r ∧ r.length = xs2.length ∧ Chg (InB A2) w w_) := by
 have H := wp.qb3.math s0 x1 xs2 lo2 hi2 hp
 refine begK mixed Tryz.f206 ann (vc s0.Op s0.A s0.B s0.C x1 (cutA c2 lo2 A2 1) ((List.drop lo2 (List.take hi2 xs2)).length) (c2 - lo2)) ?_
 unfold vc
 unfold wp.qb3 at H
 have O2 := (O1.take hi2).drop (l := lo2) hv2
 refine qax (fun g3_ w21 L3 O3 e22 => ?_)
 have O1 := O1.ext e22
 have O2 := O2.ext e22
 have hB := (Chg.refl (InB A2) w).then e22
 refine ⟨_, (O3.a 0), ?_⟩
 refine brc H (fun h H => ?_) fun h H => ?_
 ·refine ⟨_, (O3.a 1), _, (O3.a 2), ?_⟩
  obtain ⟨⟨h0_26, h1_27⟩, H⟩ := H
  obtain ⟨a24, ha25, hat23⟩ := Row.at O2.row h0_26 h1_27
  refine ⟨h0_26, h1_27, a24, ha25, ?_⟩
  refine Own.qga (hi := hi2) O1 ha25 h0_26 h1_27 0 [(iv s0.B)] s0.B rfl (Nat.le_of_ble_eq_true rfl) rfl (fun w28 O1 e29 hb30 => ?_)
  obtain ⟨b31, hb32, hbe33⟩ := qgR ha25
  rw [← hbe33] at e29 hb30
  have hB := hB.chgb e29 (Or.inr ⟨_, hb32, rfl⟩)
  cases hr.trans H.symm
  exact ⟨rfl, O1, (by first | (simp only [bC, wC, List.length_set]; done) | (simp only [bC, wC, List.length_set, List.length_set]; done) | (simp; done) | (simp; omega) | omega), hB⟩
 refine brc H (fun h H => ?_) fun h H => ?_
 ·refine ⟨(fun _ => False), _, noM (O3.a 1), _, noM (O3.a 2), ?_⟩
  obtain ⟨⟨h0_38, h1_39⟩, H⟩ := H
  obtain ⟨a36, ha37, hat35⟩ := Row.at O2.row h0_38 h1_39
  refine ⟨h0_38, h1_39, a36, ha37, _, ⟨(fun h_ => h_), (hat35 0 _ rfl)⟩, ?_⟩
  obtain ⟨⟨h0_43, h1_44⟩, H⟩ := H
  obtain ⟨a41, ha42, hat40⟩ := Row.at O2.row h0_43 h1_44
  refine ⟨h0_43, h1_44, a41, ha42, ?_⟩
  have O1 := O1.ext (Ext.drew _)
  refine Own.qga (hi := hi2) O1 ha42 h0_43 h1_44 0 [(iv (rd (List.drop lo2 (List.take hi2 xs2)) s0.B))] (rd (List.drop lo2 (List.take hi2 xs2)) s0.B) rfl (Nat.le_of_ble_eq_true rfl) rfl (fun w45 O1 e46 hb47 => ?_)
  obtain ⟨b48, hb49, hbe50⟩ := qgR ha42
  rw [← hbe50] at e46 hb47
  have hB := (hB.then (Ext.drew _)).chgb e46 (Or.inr ⟨_, hb49, rfl⟩)
  cases hr.trans H.symm
  exact ⟨rfl, O1, (by first | (simp only [bC, wC, List.length_set]; done) | (simp only [bC, wC, List.length_set, List.length_set]; done) | (simp; done) | (simp; omega) | omega), hB⟩
 refine brc H (fun h H => ?_) fun h H => ?_
 ·refine ⟨(fun _ => False), ?_⟩
  have hBz := hB
  have Z2 := O2
  refine ⟨_, noM (O3.a 1), _, noM (O3.a 2), ?_⟩
  obtain ⟨⟨h0_75, h1_76⟩, H⟩ := H
  obtain ⟨a73, ha74, hat72⟩ := Row.at O2.row h0_75 h1_76
  refine ⟨h0_75, h1_76, a73, ha74, _, ⟨(fun h_ => h_), (hat72 0 _ rfl)⟩, _, noM (O3.a 3), ?_⟩
  obtain ⟨⟨h0_80, h1_81⟩, H⟩ := H
  obtain ⟨a78, ha79, hat77⟩ := Row.at O2.row h0_80 h1_81
  refine ⟨h0_80, h1_81, a78, ha79, _, ⟨(fun h_ => h_), (hat77 0 _ rfl)⟩, ?_⟩
  have O1 := O1.ext (Ext.drew _)
  have hB := hB.then (Ext.drew _)
  have hS51 := (Chg.refl (fun _ => False) w21).then (Ext.drew _)
  obtain ⟨r82, hr83, H⟩ := qad H
  refine (qbQ.con hr83 ).mono ?_
  rintro _ w85 ⟨rfl, e86⟩
  have O1 := O1.ext e86
  have hS51 := hS51.then e86
  refine ⟨r82, rfl, qa2 hS51, ?_⟩
  obtain ⟨⟨h0_90, h1_91⟩, H⟩ := H
  obtain ⟨a88, ha89, hat87⟩ := Row.at Z2.row h0_90 h1_91
  refine ⟨h0_90, h1_91, a88, ha89, ?_⟩
  refine Own.qga (hi := hi2) O1 ha89 h0_90 h1_91 0 [(iv r82)] r82 rfl (Nat.le_of_ble_eq_true rfl) rfl (fun w92 O1 e93 hb94 => ?_)
  obtain ⟨b95, hb96, hbe97⟩ := qgR ha89
  rw [← hbe97] at e93 hb94
  have hB := (hB.then e86).chgb e93 (Or.inr ⟨_, hb96, rfl⟩)
  cases hr.trans H.symm
  exact ⟨rfl, O1, (by first | (simp only [bC, wC, List.length_set]; done) | (simp only [bC, wC, List.length_set, List.length_set]; done) | (simp; done) | (simp; omega) | omega), hB⟩
 refine brc H (fun h H => ?_) fun h H => ?_
 ·refine ⟨(fun _ => False), ?_⟩
  have hBz := hB
  have Z2 := O2
  refine ⟨_, noM (O3.a 1), _, noM (O3.a 2), ?_⟩
  obtain ⟨⟨h0_122, h1_123⟩, H⟩ := H
  obtain ⟨a120, ha121, hat119⟩ := Row.at O2.row h0_122 h1_123
  refine ⟨h0_122, h1_123, a120, ha121, _, ⟨(fun h_ => h_), (hat119 0 _ rfl)⟩, _, noM (O3.a 3), ?_⟩
  obtain ⟨⟨h0_127, h1_128⟩, H⟩ := H
  obtain ⟨a125, ha126, hat124⟩ := Row.at O2.row h0_127 h1_128
  refine ⟨h0_127, h1_128, a125, ha126, _, ⟨(fun h_ => h_), (hat124 0 _ rfl)⟩, ?_⟩
  have O1 := O1.ext (Ext.drew _)
  have hB := hB.then (Ext.drew _)
  have hS98 := (Chg.refl (fun _ => False) w21).then (Ext.drew _)
  obtain ⟨r129, hr130, H⟩ := qad H
  refine (qcq.con hr130 ).mono ?_
  rintro _ w132 ⟨rfl, e133⟩
  have O1 := O1.ext e133
  have hS98 := hS98.then e133
  refine ⟨r129, rfl, qa2 hS98, ?_⟩
  obtain ⟨⟨h0_137, h1_138⟩, H⟩ := H
  obtain ⟨a135, ha136, hat134⟩ := Row.at Z2.row h0_137 h1_138
  refine ⟨h0_137, h1_138, a135, ha136, ?_⟩
  refine Own.qga (hi := hi2) O1 ha136 h0_137 h1_138 0 [(iv r129)] r129 rfl (Nat.le_of_ble_eq_true rfl) rfl (fun w139 O1 e140 hb141 => ?_)
  obtain ⟨b142, hb143, hbe144⟩ := qgR ha136
  rw [← hbe144] at e140 hb141
  have hB := (hB.then e133).chgb e140 (Or.inr ⟨_, hb143, rfl⟩)
  cases hr.trans H.symm
  exact ⟨rfl, O1, (by first | (simp only [bC, wC, List.length_set]; done) | (simp only [bC, wC, List.length_set, List.length_set]; done) | (simp; done) | (simp; omega) | omega), hB⟩
 refine brc H (fun h H => ?_) fun h H => ?_
 ·refine ⟨(fun _ => False), ?_⟩
  have hBz := hB
  have Z2 := O2
  refine ⟨_, noM (O3.a 1), _, noM (O3.a 2), ?_⟩
  obtain ⟨⟨h0_169, h1_170⟩, H⟩ := H
  obtain ⟨a167, ha168, hat166⟩ := Row.at O2.row h0_169 h1_170
  refine ⟨h0_169, h1_170, a167, ha168, _, ⟨(fun h_ => h_), (hat166 0 _ rfl)⟩, _, noM (O3.a 3), ?_⟩
  obtain ⟨⟨h0_174, h1_175⟩, H⟩ := H
  obtain ⟨a172, ha173, hat171⟩ := Row.at O2.row h0_174 h1_175
  refine ⟨h0_174, h1_175, a172, ha173, _, ⟨(fun h_ => h_), (hat171 0 _ rfl)⟩, ?_⟩
  have O1 := O1.ext (Ext.drew _)
  have hB := hB.then (Ext.drew _)
  have hS145 := (Chg.refl (fun _ => False) w21).then (Ext.drew _)
  obtain ⟨r176, hr177, H⟩ := qad H
  refine (qcn.con hr177 ).mono ?_
  rintro _ w179 ⟨rfl, e180⟩
  have O1 := O1.ext e180
  have hS145 := hS145.then e180
  refine ⟨r176, rfl, qa2 hS145, ?_⟩
  obtain ⟨⟨h0_184, h1_185⟩, H⟩ := H
  obtain ⟨a182, ha183, hat181⟩ := Row.at Z2.row h0_184 h1_185
  refine ⟨h0_184, h1_185, a182, ha183, ?_⟩
  refine Own.qga (hi := hi2) O1 ha183 h0_184 h1_185 0 [(iv r176)] r176 rfl (Nat.le_of_ble_eq_true rfl) rfl (fun w186 O1 e187 hb188 => ?_)
  obtain ⟨b189, hb190, hbe191⟩ := qgR ha183
  rw [← hbe191] at e187 hb188
  have hB := (hB.then e180).chgb e187 (Or.inr ⟨_, hb190, rfl⟩)
  cases hr.trans H.symm
  exact ⟨rfl, O1, (by first | (simp only [bC, wC, List.length_set]; done) | (simp only [bC, wC, List.length_set, List.length_set]; done) | (simp; done) | (simp; omega) | omega), hB⟩
 refine brc H (fun h H => ?_) fun h H => ?_
 ·refine ⟨(fun _ => False), _, noM (O3.a 1), _, noM (O3.a 2), ?_⟩
  obtain ⟨⟨h0_196, h1_197⟩, H⟩ := H
  obtain ⟨a194, ha195, hat193⟩ := Row.at O2.row h0_196 h1_197
  refine ⟨h0_196, h1_197, a194, ha195, _, ⟨(fun h_ => h_), (hat193 0 _ rfl)⟩, _, noM (O3.a 3), ?_⟩
  obtain ⟨⟨h0_201, h1_202⟩, H⟩ := H
  obtain ⟨a199, ha200, hat198⟩ := Row.at O2.row h0_201 h1_202
  refine ⟨h0_201, h1_202, a199, ha200, _, ⟨(fun h_ => h_), (hat198 0 _ rfl)⟩, ?_⟩
  obtain ⟨⟨h0_206, h1_207⟩, H⟩ := H
  obtain ⟨a204, ha205, hat203⟩ := Row.at O2.row h0_206 h1_207
  refine ⟨h0_206, h1_207, a204, ha205, ?_⟩
  have O1 := O1.ext (Ext.drew _)
  refine Own.qga (hi := hi2) O1 ha205 h0_206 h1_207 0 [(iv (qgK .i64 (rd (List.drop lo2 (List.take hi2 xs2)) s0.B) (rd (List.drop lo2 (List.take hi2 xs2)) s0.C)))] (qgK .i64 (rd (List.drop lo2 (List.take hi2 xs2)) s0.B) (rd (List.drop lo2 (List.take hi2 xs2)) s0.C)) rfl (Nat.le_of_ble_eq_true rfl) rfl (fun w208 O1 e209 hb210 => ?_)
  obtain ⟨b211, hb212, hbe213⟩ := qgR ha205
  rw [← hbe213] at e209 hb210
  have hB := (hB.then (Ext.drew _)).chgb e209 (Or.inr ⟨_, hb212, rfl⟩)
  cases hr.trans H.symm
  exact ⟨rfl, O1, (by first | (simp only [bC, wC, List.length_set]; done) | (simp only [bC, wC, List.length_set, List.length_set]; done) | (simp; done) | (simp; omega) | omega), hB⟩
 refine brc H (fun h H => ?_) fun h H => ?_
 ·refine ⟨(fun _ => False), ?_⟩
  have hBz := hB
  have Z2 := O2
  refine ⟨_, noM (O3.a 1), _, noM (O3.a 2), ?_⟩
  obtain ⟨⟨h0_238, h1_239⟩, H⟩ := H
  obtain ⟨a236, ha237, hat235⟩ := Row.at O2.row h0_238 h1_239
  refine ⟨h0_238, h1_239, a236, ha237, _, ⟨(fun h_ => h_), (hat235 0 _ rfl)⟩, _, noM (O3.a 3), ?_⟩
  obtain ⟨⟨h0_243, h1_244⟩, H⟩ := H
  obtain ⟨a241, ha242, hat240⟩ := Row.at O2.row h0_243 h1_244
  refine ⟨h0_243, h1_244, a241, ha242, _, ⟨(fun h_ => h_), (hat240 0 _ rfl)⟩, ?_⟩
  have O1 := O1.ext (Ext.drew _)
  have hB := hB.then (Ext.drew _)
  have hS214 := (Chg.refl (fun _ => False) w21).then (Ext.drew _)
  obtain ⟨r245, hr246, H⟩ := qad H
  refine (qcd.con hr246 ).mono ?_
  rintro _ w248 ⟨rfl, e249⟩
  have O1 := O1.ext e249
  have hS214 := hS214.then e249
  refine ⟨r245, rfl, qa2 hS214, ?_⟩
  obtain ⟨⟨h0_253, h1_254⟩, H⟩ := H
  obtain ⟨a251, ha252, hat250⟩ := Row.at Z2.row h0_253 h1_254
  refine ⟨h0_253, h1_254, a251, ha252, ?_⟩
  refine Own.qga (hi := hi2) O1 ha252 h0_253 h1_254 0 [(iv r245)] r245 rfl (Nat.le_of_ble_eq_true rfl) rfl (fun w255 O1 e256 hb257 => ?_)
  obtain ⟨b258, hb259, hbe260⟩ := qgR ha252
  rw [← hbe260] at e256 hb257
  have hB := (hB.then e249).chgb e256 (Or.inr ⟨_, hb259, rfl⟩)
  cases hr.trans H.symm
  exact ⟨rfl, O1, (by first | (simp only [bC, wC, List.length_set]; done) | (simp only [bC, wC, List.length_set, List.length_set]; done) | (simp; done) | (simp; omega) | omega), hB⟩
 refine brc H (fun h H => ?_) fun h H => ?_
 ·refine ⟨_, (O3.a 1), ?_⟩
  obtain ⟨⟨h0_264, h1_265⟩, H⟩ := H
  obtain ⟨a262, ha263, hat261⟩ := Row.at O2.row h0_264 h1_265
  refine ⟨h0_264, h1_265, a262, ha263, ?_⟩
  refine Own.qga (hi := hi2) O1 ha263 h0_264 h1_265 0 [(iv x1)] x1 rfl (Nat.le_of_ble_eq_true rfl) rfl (fun w266 O1 e267 hb268 => ?_)
  obtain ⟨b269, hb270, hbe271⟩ := qgR ha263
  rw [← hbe271] at e267 hb268
  have hB := hB.chgb e267 (Or.inr ⟨_, hb270, rfl⟩)
  cases hr.trans H.symm
  exact ⟨rfl, O1, (by first | (simp only [bC, wC, List.length_set]; done) | (simp only [bC, wC, List.length_set, List.length_set]; done) | (simp; done) | (simp; omega) | omega), hB⟩
 refine brc H (fun h H => ?_) fun h H => ?_
 ·refine ⟨_, (O3.a 3), ?_⟩
  obtain ⟨⟨h0_275, h1_276⟩, H⟩ := H
  obtain ⟨a273, ha274, hat272⟩ := Row.at O2.row h0_275 h1_276
  refine ⟨h0_275, h1_276, a273, ha274, _, (hat272 0 _ rfl), ?_⟩
  refine brc H (fun h H => ?_) fun h H => ?_
  ·refine ⟨(fun _ => False), _, noM (O3.a 1), _, noM (O3.a 2), ?_⟩
   obtain ⟨⟨h0_281, h1_282⟩, H⟩ := H
   obtain ⟨a279, ha280, hat278⟩ := Row.at O2.row h0_281 h1_282
   refine ⟨h0_281, h1_282, a279, ha280, _, ⟨(fun h_ => h_), (hat278 0 _ rfl)⟩, ?_⟩
   obtain ⟨⟨h0_286, h1_287⟩, H⟩ := H
   obtain ⟨a284, ha285, hat283⟩ := Row.at O2.row h0_286 h1_287
   refine ⟨h0_286, h1_287, a284, ha285, ?_⟩
   have O1 := O1.ext (Ext.drew _)
   refine Own.qga (hi := hi2) O1 ha285 h0_286 h1_287 0 [(iv (rd (List.drop lo2 (List.take hi2 xs2)) s0.B))] (rd (List.drop lo2 (List.take hi2 xs2)) s0.B) rfl (Nat.le_of_ble_eq_true rfl) rfl (fun w288 O1 e289 hb290 => ?_)
   obtain ⟨b291, hb292, hbe293⟩ := qgR ha285
   rw [← hbe293] at e289 hb290
   have hB := (hB.then (Ext.drew _)).chgb e289 (Or.inr ⟨_, hb292, rfl⟩)
   cases hr.trans H.symm
   exact ⟨rfl, O1, (by first | (simp only [bC, wC, List.length_set]; done) | (simp only [bC, wC, List.length_set, List.length_set]; done) | (simp; done) | (simp; omega) | omega), hB⟩
  cases hr.trans H.symm
  exact ⟨rfl, O1, rfl, hB⟩
 cases hr.trans H.symm
 exact ⟨rfl, O1, rfl, hB⟩
def qba.vc (p0 : Addr) (A1 : OA) (n1 c1 : Nat) (w : World) (K : VK) : Prop :=
  ldS w ((p0.add 1).add 0) fun A21 n22 c23 => ldS w ((p0.add 1).add 0) fun A24 n25 c26 => (idx (wrap .i64 (((n25 : Nat) : Int) - 1)) n22 A21 fun a27 => ∃ (n28 : Int), w.drew.cell? (((a27.add (((wrap .i64 (((n25 : Nat) : Int) - 1)).toNat) * 3)).add 0).add 0) = some (iv n28) ∧ (idx n28 n1 A1 fun a29 => ∃ (n30 : Int), w.drew.cell? ((a29.add ((n28.toNat) * 4)).add 0) = some (iv n30) ∧ ∃ (n31 : Int), w.drew.cell? ((a29.add ((n28.toNat) * 4)).add 1) = some (iv n31) ∧ ∃ (n32 : Int), w.drew.cell? ((a29.add ((n28.toNat) * 4)).add 2) = some (iv n32) ∧ ∃ (n33 : Int), w.drew.cell? ((a29.add ((n28.toNat) * 4)).add 3) = some (iv n33) ∧ newK w.drew (.cells #[(iv 0), (iv 0), (iv 0), (iv 0)] 84) fun g34 w35 => qa7 (bx g34) [(iv n30), (iv n31), (iv n32), (iv n33)] 0 w35 fun w36 => ldI w36 (((a27.add (((wrap .i64 (((n25 : Nat) : Int) - 1)).toNat) * 3)).add 2).add 0) fun n37 => Cl 105 #[(iv n37)] w36 fun v38 w39 => (∃ (A40 : OA) (n41 c42 : Nat), v38 = (sv A40 n41 c42) ∧ qdA (σ := Int × Unit) (fun z43 w44 next45 => qa1 (decide (z43.1 < ((n41 : Nat) : Int))) ((idx z43.1 n41 A40 fun a46 => ldI w44 ((a46.add ((z43.1.toNat) * 1)).add 0) fun n47 => (∃ M48 : Nat → Prop, ldIM M48 w44 (bx g34) 0 fun n49 => ldIM M48 w44 (bx g34) 1 fun n50 => ldIM M48 w44 (bx g34) 2 fun n51 => ldIM M48 w44 (bx g34) 3 fun n52 => ldIM M48 w44 (p0.add 0) 0 fun n53 => ldIM M48 w44 p0 0 fun n54 => ldSM M48 w44 p0 1 fun A55 n56 c57 => ldSM M48 w44 p0 2 fun A58 n59 c60 => Cl 107 #[(.agg #[(iv n54), (sv A55 n56 c57), (sv A58 n59 c60)]), (iv n47)] w44.drew fun v61 w62 => (∃ (A63 : OA) (n64 c65 : Nat), v61 = (sv A63 n64 c65) ∧ qac M48 w44 w62 ∧ Cl 206 #[(.agg #[(iv n49), (iv n50), (iv n51), (iv n52)]), (iv (wrap .i64 ((wrap .i64 (n53 * 8)) + n47))), (sv A63 n64 c65)] w62 fun v66 w67 => (v66 = (.tuple #[]) ∧ next45 ((wrap .i64 (z43.1 + 1)), ()) w67))))) (ldI w44 (((bx g34).add 0).add 0) fun n68 => qa1 (n68 == 12) (qa7 ((a27.add (((wrap .i64 (((n25 : Nat) : Int) - 1)).toNat) * 3)).add 0) [(iv ((n1 : Nat) : Int))] 0 w44 fun w69 => K (.tuple #[]) w69) (qfL (σ := Bool × Unit) (fun J70 => (∃ M71 : Nat → Prop, ldIM M71 w44 ((bx g34).add 0) 0 fun n72 => qa1 (n72 == 11) (J70 (true, ()) w44.drew) (ldIM M71 w44 ((bx g34).add 0) 0 fun n73 => qa1 (n73 == 10) (ldIM M71 w44 p0 0 fun n74 => ldSM M71 w44 p0 1 fun A75 n76 c77 => ldSM M71 w44 p0 2 fun A78 n79 c80 => ldIM M71 w44 ((bx g34).add 1) 0 fun n81 => ldIM M71 w44 ((a27.add (((wrap .i64 (((n25 : Nat) : Int) - 1)).toNat) * 3)).add 2) 0 fun n82 => Cl 166 #[(.agg #[(iv n74), (sv A75 n76 c77), (sv A78 n79 c80)]), (iv n81)] w44.drew fun v83 w84 => (∃ (n85 : Int), v83 = (iv n85) ∧ qac M71 w44 w84 ∧ J70 ((n85 == n82), ()) w84)) (J70 (false, ()) w44.drew)))) fun z86 w87 => qa1 z86.1 (ldI w87 (((bx g34).add 2).add 0) fun n88 => qa7 ((a27.add (((wrap .i64 (((n25 : Nat) : Int) - 1)).toNat) * 3)).add 0) [(iv n88)] 0 w87 fun w89 => K (.tuple #[]) w89) (ldI w87 (((a27.add (((wrap .i64 (((n25 : Nat) : Int) - 1)).toNat) * 3)).add 0).add 0) fun n90 => qa7 ((a27.add (((wrap .i64 (((n25 : Nat) : Int) - 1)).toNat) * 3)).add 0) [(iv (wrap .i64 (n90 + 1)))] 0 w87 fun w91 => K (.tuple #[]) w91)))) (0, ()) w39)))

def qba.ann : Ann := (.seq .l (.seq .l (.seq (.seq .l (.one (.loop [(32, .int .i64)] (.seq .l (.seq (.two .l .l) (.seq (.one (.seq .l .l)) .l)))))) (.one (.seq .l (.two .l (.cut [(67, .bool)] .l (.two .l .l))))))))

theorem qba.con {s0 r : D.Warp} {g1_ c0_1 c0_2 o1_ c1 : Nat} {A0_1 A0_2 A1 : OA} {R1_ : Array Value} {xs1 : List D.Ins} {w : World} (hp : M.qeN s0 xs1) (hr : r = M.qba s0 xs1) (O1 : Plc w g1_ o1_ 52 R1_ (wC A0_1 c0_1 A0_2 c0_2 s0)) (O2 : Own el91 w 0 A0_1 c0_1 s0.Frames) (O3 : Own el3 w 0 A0_2 c0_2 s0.Regs) (R1 : Row el84 w A1 xs1) (hc1 : xs1.length ≤ c1) (D1 : xs1 ≠ [] → ∀ g, InB A1 g → ¬ (fun k_ => InB A0_1 k_ ∨ InB A0_2 k_ ∨ k_ = g1_) g) :
    Cl 172 #[(.pointer (some (⟨g1_, o1_, none⟩ : Addr))), (sv A1 xs1.length c1)] w (fun v_ w_ => ∃ (A0_ : OA) (c0_ : Nat) (A1_ : OA) (c1_ : Nat), v_ = (.tuple #[]) ∧ Plc w_ g1_ o1_ 52 R1_ (wC A0_ c0_ A1_ c1_ r) ∧ Own el91 w_ 0 A0_ c0_ r.Frames ∧ Mov w A0_1 A0_ ∧ Own el3 w_ 0 A1_ c1_ r.Regs ∧ Mov w A0_2 A1_ ∧ Chg (fun k_ => InB A0_1 k_ ∨ InB A0_2 k_ ∨ k_ = g1_) w w_) := by
 have H := wp.qba.math s0 xs1 hp
 refine begK mixed Tryz.f172 ann (vc (⟨g1_, o1_, none⟩ : Addr) A1 xs1.length c1) ?_
 unfold vc
 unfold wp.qba at H
 refine ⟨_, _, _, (O1.a 1), _, _, _, (O1.a 1), ?_⟩
 obtain ⟨⟨h0_25, h1_26⟩, H⟩ := H
 obtain ⟨a23, ha24, hat22⟩ := Row.at O2.row h0_25 h1_26
 refine ⟨h0_25, h1_26, a23, ha24, ?_⟩
 have O1 := O1.ext (Ext.drew _)
 have O2 := O2.ext (Ext.drew _)
 have O3 := O3.ext (Ext.drew _)
 have hB := (Chg.refl (fun k_ => InB A0_1 k_ ∨ InB A0_2 k_ ∨ k_ = g1_) w).then (Ext.drew _)
 have hat27 := Row.re O2.row ha24 h0_25 (by first | exact h1_26 | omega | (simp at h1_26 ⊢; omega))
 refine ⟨_, (hat27 0 _ rfl), ?_⟩
 obtain ⟨⟨h0_31, h1_32⟩, H⟩ := H
 obtain ⟨a29, ha30, hat28⟩ := Row.at (R1.chgS hB D1) h0_31 h1_32
 refine ⟨h0_31, h1_32, a29, ha30, _, (hat28 0 _ rfl), _, (hat28 1 _ rfl), _, (hat28 2 _ rfl), _, (hat28 3 _ rfl), ?_⟩
 refine qax (fun g5_ w33 L5 P5 e34 => ?_)
 have N1_5 := O1.ne L5
 have N2_5 := O2.qag L5
 have N3_5 := O3.qag L5
 have O1 := O1.ext e34
 have O3 := O3.ext e34
 have O5 := P5
 have L5 := Nat.le_trans hB.size L5
 refine qbI O5 (o := 0) (cs' := #[(iv ((rd xs1 ((rd s0.Frames (wrap .i64 ((s0.Frames.length : Int) - 1))).Pc)).Op)), (iv ((rd xs1 ((rd s0.Frames (wrap .i64 ((s0.Frames.length : Int) - 1))).Pc)).A)), (iv ((rd xs1 ((rd s0.Frames (wrap .i64 ((s0.Frames.length : Int) - 1))).Pc)).B)), (iv ((rd xs1 ((rd s0.Frames (wrap .i64 ((s0.Frames.length : Int) - 1))).Pc)).C))]) rfl rfl (Nat.le_of_ble_eq_true rfl) rfl (fun w35 O5 e36 => ?_)
 have O1_ := O1.chg e36 N1_5
 have O2 := (O2.ext e34).chg e36 N2_5
 have O3_ := O3.chg e36 N3_5
 have O3 := O3_
 have hB := (hB.then e34).chgb e36 (Or.inl L5)
 have hat37 := Row.re O2.row ha24 h0_25 (by first | exact h1_26 | omega | (simp at h1_26 ⊢; omega))
 refine ⟨_, (hat37 2 _ rfl), ?_⟩
 obtain ⟨r38, hr39, H⟩ := qad H
 refine (qcj.con hr39 ).mono ?_
 rintro _ w41 ⟨A43, c44, rfl, P6, e42⟩
 have N3_6 := aN O3 P6
 have O1 := O1_.ext e42
 have O2 := O2.ext e42
 have O3 := O3.ext e42
 have O5 := O5.ext e42
 have O6 := P6.mono hB.size
 have hB := hB.then e42
 refine ⟨A43, r38.length, c44, rfl, ?_⟩
 obtain ⟨J70, ⟨m122, hJ121⟩, hS71⟩ := H
 refine ⟨fun m_ z_ w_ => ∃ (i66 : Int) (xs67 : List Int), z_ = (i66, ()) ∧ J70 m_ (i66, xs67, ()) ∧ Chg (fun k_ => InB A0_1 k_ ∨ InB A0_2 k_ ∨ k_ = g1_) w w_ ∧ Own el3 w_ 0 A0_2 c0_2 xs67 ∧ s0.Regs.length = xs67.length ∧ Plc w_ g1_ o1_ 52 R1_ (wC A0_1 c0_1 A0_2 c0_2 s0) ∧ Own el91 w_ 0 A0_1 c0_1 s0.Frames ∧ Blk w_ g5_ 84 #[(iv ((rd xs1 ((rd s0.Frames (wrap .i64 ((s0.Frames.length : Int) - 1))).Pc)).Op)), (iv ((rd xs1 ((rd s0.Frames (wrap .i64 ((s0.Frames.length : Int) - 1))).Pc)).A)), (iv ((rd xs1 ((rd s0.Frames (wrap .i64 ((s0.Frames.length : Int) - 1))).Pc)).B)), (iv ((rd xs1 ((rd s0.Frames (wrap .i64 ((s0.Frames.length : Int) - 1))).Pc)).C))] ∧ Own el3 w_ w.heap.size A43 c44 r38, ⟨m122, 0, s0.Regs, rfl, hJ121, hB, O3, (by first | rfl | assumption | omega | (simp; done) | (simp; omega) | (simp; assumption)), O1, O2, O5, O6⟩, ?_⟩
 rintro m69 _ w73 ⟨i66, xs67, rfl, hJ123, hB, O3, hn68, O1, O2, O5, O6⟩
 have H := hS71 m69 _ hJ123
 clear hS71 hJ123
 try dsimp only at H ⊢
 refine brc H (fun h H => ?_) fun h H => ?_
 ·obtain ⟨⟨h0_77, h1_78⟩, H⟩ := H
  obtain ⟨a75, ha76, hat74⟩ := Row.at O6.row h0_77 h1_78
  refine ⟨h0_77, h1_78, a75, ha76, _, (hat74 0 _ rfl), (fun _ => False), _, noM (O5.a 0), _, noM (O5.a 1), _, noM (O5.a 2), _, noM (O5.a 3), _, noM (O1.a 0), _, noM (O1.a 0), _, _, _, noM (O1.a 1), _, _, _, noM (O1.a 2), ?_⟩
  have O1 := O1.ext (Ext.drew _)
  have O2 := O2.ext (Ext.drew _)
  have O3 := O3.ext (Ext.drew _)
  have O5 := O5.ext (Ext.drew _)
  have O6 := O6.ext (Ext.drew _)
  have hB := hB.then (Ext.drew _)
  have hS79 := (Chg.refl (fun _ => False) w73).then (Ext.drew _)
  obtain ⟨hp80, H⟩ := H
  refine (qhX (by first | (simp only [bC, wC, List.length_set, ← hn68]; done) | (simp; done)) (qbu.con hp80 O2.row O2.le O3.row O3.le)).mono ?_
  rintro _ w81 ⟨rfl, e82⟩
  have O1 := O1.ext e82
  have O2 := O2.ext e82
  have O3 := O3.ext e82
  have hS79 := hS79.then e82
  have hv8_ : ((wrap .i64 ((rd r38 i66) * 4)).toNat) ≤ (List.take ((wrap .i64 ((wrap .i64 ((rd r38 i66) + 1)) * 4)).toNat) xs67).length := qbu.cut hp80
  refine ⟨(cutA c0_2 ((wrap .i64 ((rd r38 i66) * 4)).toNat) A0_2 1), (List.drop ((wrap .i64 ((rd r38 i66) * 4)).toNat) (List.take ((wrap .i64 ((wrap .i64 ((rd r38 i66) + 1)) * 4)).toNat) xs67)).length, (c0_2 - ((wrap .i64 ((rd r38 i66) * 4)).toNat)), rfl, qa2 hS79, ?_⟩
  obtain ⟨hp85, H⟩ := H
  obtain ⟨r83, hr84, H⟩ := qad H
  refine (qb3.con hp85 hr84 (O3.mono (Nat.zero_le _)) hv8_).mono ?_
  rintro _ w86 ⟨rfl, Q3, hl88, e87⟩
  have O1 := O1.chgS e87 ((O3.qa6 O1.b (by decide))).inb
  have O2 := O2.chgS e87 ((Own.qaq O2 O3 (by decide))).inb
  have O5 := (O5.ext e82).chgS e87 (N3_5).inb
  have O6 := (O6.ext e82).chgS e87 ((N3_6).symm).inb
  have hB := (hB.then e82).chg e87 (fun g h_ => (Or.inr (Or.inr (Or.inl h_))))
  have O3 := Q3
  refine ⟨rfl, ?_⟩
  obtain ⟨m89, hm90, hJ91⟩ := H
  exact ⟨m89, hm90, _, r83, rfl, hJ91, hB, O3, (by first | rfl | assumption | omega | (simp; done) | (simp; omega) | (simp; assumption)), (by first | exact O1 | (simp only [bC, wC, List.length_set, ← hn68, hl88]; exact O1)), O2, O5, O6⟩
 refine ⟨_, (O5.a 0), ?_⟩
 refine brc H (fun h H => ?_) fun h H => ?_
 ·refine Own.stA O2 ha24 h0_25 h1_26 0 (⟨(xs1.length : Int), (rd s0.Frames (wrap .i64 ((s0.Frames.length : Int) - 1))).Stop, (rd s0.Frames (wrap .i64 ((s0.Frames.length : Int) - 1))).Mask⟩ : D.Frame) (fun w92 P2 e93 hb94 => ?_)
  have O1 := O1.chg e93 (fun h_ => ((O2.qa6 O1.b (by decide))) _ ha24 h_.symm)
  have O3 := O3.chg e93 (((Own.qaq O3 O2 (by decide))).left ha24)
  have hB := hB.chgb e93 (Or.inr (Or.inl ⟨_, ha24, rfl⟩))
  have O2 := P2
  cases hr.trans H.symm
  exact ⟨A0_1, c0_1, A0_2, c0_2, rfl, (by first | exact O1 | (simp only [bC, wC, List.length_set, ← hn68]; exact O1)), (O2.mono (Nat.zero_le _)), (Mov.same _ _), (O3.mono (Nat.zero_le _)), (Mov.same _ _), hB⟩
 obtain ⟨K117, hKK117, H⟩ := qcR H
 refine ⟨fun z_ w_ => ∃ (b95 : Bool), z_ = (b95, ()) ∧ K117 (b95, ()) ∧ Chg (fun k_ => InB A0_1 k_ ∨ InB A0_2 k_ ∨ k_ = g1_) w w_ ∧ Plc w_ g1_ o1_ 52 R1_ (wC A0_1 c0_1 A0_2 c0_2 s0) ∧ Own el91 w_ 0 A0_1 c0_1 s0.Frames ∧ Own el3 w_ 0 A0_2 c0_2 xs67 ∧ Blk w_ g5_ 84 #[(iv ((rd xs1 ((rd s0.Frames (wrap .i64 ((s0.Frames.length : Int) - 1))).Pc)).Op)), (iv ((rd xs1 ((rd s0.Frames (wrap .i64 ((s0.Frames.length : Int) - 1))).Pc)).A)), (iv ((rd xs1 ((rd s0.Frames (wrap .i64 ((s0.Frames.length : Int) - 1))).Pc)).B)), (iv ((rd xs1 ((rd s0.Frames (wrap .i64 ((s0.Frames.length : Int) - 1))).Pc)).C))], ?_, ?_⟩
 ·refine ⟨(fun _ => False), _, noM (O5.a 0), ?_⟩
  refine brc H (fun h H => ?_) fun h H => ?_
  ·have O1 := O1.ext (Ext.drew _)
   have O2 := O2.ext (Ext.drew _)
   have O3 := O3.ext (Ext.drew _)
   have O5 := O5.ext (Ext.drew _)
   have hB := hB.then (Ext.drew _)
   exact ⟨true, rfl, H, hB, (by first | exact O1 | (simp only [bC, wC, List.length_set, ← hn68]; exact O1)), O2, O3, O5⟩
  refine ⟨_, noM (O5.a 0), ?_⟩
  refine brc H (fun h H => ?_) fun h H => ?_
  ·refine ⟨_, noM (O1.a 0), _, _, _, noM (O1.a 1), _, _, _, noM (O1.a 2), _, noM (O5.a 1), ?_⟩
   have hat100 := Row.re O2.row ha24 h0_25 (by first | exact h1_26 | omega | (simp at h1_26 ⊢; omega))
   refine ⟨_, ⟨(fun h_ => h_), (hat100 2 _ rfl)⟩, ?_⟩
   have O1 := O1.ext (Ext.drew _)
   have O2 := O2.ext (Ext.drew _)
   have O3 := O3.ext (Ext.drew _)
   have O5 := O5.ext (Ext.drew _)
   have hB := hB.then (Ext.drew _)
   have hS99 := (Chg.refl (fun _ => False) w73).then (Ext.drew _)
   obtain ⟨hp103, H⟩ := H
   obtain ⟨r101, hr102, H⟩ := qad H
   refine (qhX (by first | (simp only [bC, wC, List.length_set, ← hn68]; done) | (simp; done)) (qaN.con hp103 hr102 O2.row O2.le O3.row O3.le)).mono ?_
   rintro _ w104 ⟨rfl, e105⟩
   have O1 := O1.ext e105
   have O2 := O2.ext e105
   have O3 := O3.ext e105
   have O5 := O5.ext e105
   have hB := hB.then e105
   have hS99 := hS99.then e105
   refine ⟨r101, rfl, qa2 hS99, ?_⟩
   exact ⟨_, rfl, H, hB, (by first | exact O1 | (simp only [bC, wC, List.length_set, ← hn68]; exact O1)), O2, O3, O5⟩
  have O1 := O1.ext (Ext.drew _)
  have O2 := O2.ext (Ext.drew _)
  have O3 := O3.ext (Ext.drew _)
  have O5 := O5.ext (Ext.drew _)
  have hB := hB.then (Ext.drew _)
  exact ⟨_, rfl, H, hB, (by first | exact O1 | (simp only [bC, wC, List.length_set, ← hn68]; exact O1)), O2, O3, O5⟩
 rintro _ w97 ⟨b95, rfl, H, hB, O1, O2, O3, O5⟩
 have H := hKK117 _ H
 try dsimp only at H ⊢
 refine brc H (fun h H => ?_) fun h H => ?_
 ·refine ⟨_, (O5.a 2), ?_⟩
  refine Own.stA O2 ha24 h0_25 h1_26 0 (⟨(rd xs1 ((rd s0.Frames (wrap .i64 ((s0.Frames.length : Int) - 1))).Pc)).B, (rd s0.Frames (wrap .i64 ((s0.Frames.length : Int) - 1))).Stop, (rd s0.Frames (wrap .i64 ((s0.Frames.length : Int) - 1))).Mask⟩ : D.Frame) (fun w108 P2 e109 hb110 => ?_)
  have O1 := O1.chg e109 (fun h_ => ((O2.qa6 O1.b (by decide))) _ ha24 h_.symm)
  have O3 := O3.chg e109 (((Own.qaq O3 O2 (by decide))).left ha24)
  have hB := hB.chgb e109 (Or.inr (Or.inl ⟨_, ha24, rfl⟩))
  have O2 := P2
  cases hr.trans H.symm
  exact ⟨A0_1, c0_1, A0_2, c0_2, rfl, (by first | exact O1 | (simp only [bC, wC, List.length_set, ← hn68]; exact O1)), (O2.mono (Nat.zero_le _)), (Mov.same _ _), (O3.mono (Nat.zero_le _)), (Mov.same _ _), hB⟩
 have hat111 := Row.re O2.row ha24 h0_25 (by first | exact h1_26 | omega | (simp at h1_26 ⊢; omega))
 refine ⟨_, (hat111 0 _ rfl), ?_⟩
 refine Own.stA O2 ha24 h0_25 h1_26 0 (⟨(wrap .i64 ((rd s0.Frames (wrap .i64 ((s0.Frames.length : Int) - 1))).Pc + 1)), (rd s0.Frames (wrap .i64 ((s0.Frames.length : Int) - 1))).Stop, (rd s0.Frames (wrap .i64 ((s0.Frames.length : Int) - 1))).Mask⟩ : D.Frame) (fun w112 P2 e113 hb114 => ?_)
 have O1 := O1.chg e113 (fun h_ => ((O2.qa6 O1.b (by decide))) _ ha24 h_.symm)
 have O3 := O3.chg e113 (((Own.qaq O3 O2 (by decide))).left ha24)
 have hB := hB.chgb e113 (Or.inr (Or.inl ⟨_, ha24, rfl⟩))
 have O2 := P2
 cases hr.trans H.symm
 exact ⟨A0_1, c0_1, A0_2, c0_2, rfl, (by first | exact O1 | (simp only [bC, wC, List.length_set, ← hn68]; exact O1)), (O2.mono (Nat.zero_le _)), (Mov.same _ _), (O3.mono (Nat.zero_le _)), (Mov.same _ _), hB⟩
def qbw.vc (p0 : Addr) (x1 : Int) (w : World) (K : VK) : Prop :=
  qdA (σ := Unit) (fun z21 w22 next23 => ldS w22 ((p0.add 1).add 0) fun A24 n25 c26 => qa1 (decide (((n25 : Nat) : Int) > 0)) ((∃ M27 : Nat → Prop, ldSM M27 w22 (p0.add 1) 0 fun A28 n29 c30 => ldSM M27 w22 (p0.add 1) 0 fun A31 n32 c33 => (idx (wrap .i64 (((n32 : Nat) : Int) - 1)) n29 A28 fun a34 => ldIM M27 w22 (a34.add (((wrap .i64 (((n32 : Nat) : Int) - 1)).toNat) * 3)) 0 fun n35 => ldIM M27 w22 (a34.add (((wrap .i64 (((n32 : Nat) : Int) - 1)).toNat) * 3)) 1 fun n36 => ldIM M27 w22 (a34.add (((wrap .i64 (((n32 : Nat) : Int) - 1)).toNat) * 3)) 2 fun n37 => newK w22.drew (.cells #[(iv 0), (iv 0), (iv 0)] 91) fun g38 w39 => qac M27 w22 w39 ∧ qa7 (bx g38) [(iv n35), (iv n36), (iv n37)] 0 w39 fun w40 => qfL (σ := Unit) (fun J41 => ldI w40 (((bx g38).add 0).add 0) fun n42 => ldI w40 (((bx g38).add 1).add 0) fun n43 => qa1 (n42 != n43) (ldI w40 (((bx g38).add 0).add 0) fun n44 => qa1 (n44 != x1) (K (.tuple #[]) w40) (J41 () w40)) (J41 () w40)) fun z45 w46 => (∃ M47 : Nat → Prop, ldSM M47 w46 (p0.add 1) 0 fun A48 n49 c50 => ldSM M47 w46 (p0.add 1) 0 fun A51 n52 c53 => ((0 : Int) ≤ (wrap .i64 (((n52 : Nat) : Int) - 1)) ∧ (wrap .i64 (((n52 : Nat) : Int) - 1)) ≤ ((c50 : Nat) : Int) ∧ qa7 (p0.add 1) [(sv A48 ((wrap .i64 (((n52 : Nat) : Int) - 1)).toNat) c50)] 0 w46.drew fun w54 => next23 () w54))))) (K (.tuple #[]) w22)) () w

def qbw.ann : Ann := (.one (.loop [] (.seq (.seq .l (.two .l .l)) (.one (.seq .l (.cut [] (.seq .l (.two .l .l)) .l))))))

theorem qbw.con {s0 r : D.Warp} {g1_ c0_1 c0_2 o1_ : Nat} {A0_1 A0_2 : OA} {R1_ : Array Value} {x1 : Int} {w : World} (hp : M.qef s0 x1) (hr : r = M.qbw s0 x1) (O1 : Plc w g1_ o1_ 52 R1_ (wC A0_1 c0_1 A0_2 c0_2 s0)) (O2 : Own el91 w 0 A0_1 c0_1 s0.Frames) (R0_2 : Row el3 w A0_2 s0.Regs) (hc0_2 : s0.Regs.length ≤ c0_2) (D0_2 : s0.Regs ≠ [] → ∀ g, InB A0_2 g → ¬ (fun k_ => InB A0_1 k_ ∨ k_ = g1_) g) :
    Cl 132 #[(.pointer (some (⟨g1_, o1_, none⟩ : Addr))), (iv x1)] w (fun v_ w_ => ∃ (A0_ : OA) (c0_ : Nat), v_ = (.tuple #[]) ∧ Plc w_ g1_ o1_ 52 R1_ (wC A0_ c0_ A0_2 c0_2 r) ∧ Own el91 w_ 0 A0_ c0_ r.Frames ∧ Mov w A0_1 A0_ ∧ r.Regs = s0.Regs ∧ Chg (fun k_ => InB A0_1 k_ ∨ k_ = g1_) w w_) := by
 have H := wp.qbw.math s0 x1 hp
 have hB := Chg.refl (fun k_ => InB A0_1 k_ ∨ k_ = g1_) w
 refine begK mixed Tryz.f132 ann (vc (⟨g1_, o1_, none⟩ : Addr) x1) ?_
 unfold vc
 unfold wp.qbw at H
 obtain ⟨J77, ⟨m109, hJ108⟩, hS78⟩ := H
 refine ⟨fun m_ z_ w_ => ∃ (i72 : Int) (xs73 : List D.Frame) (A74 : OA) (c75 : Nat), z_ = (()) ∧ J77 m_ (i72, xs73, ()) ∧ Chg (fun k_ => InB A0_1 k_ ∨ k_ = g1_) w w_ ∧ Plc w_ g1_ o1_ 52 R1_ #[(iv i72), (sv A74 xs73.length c75), (sv A0_2 s0.Regs.length c0_2)] ∧ Own el91 w_ 0 A74 c75 xs73 ∧ Mov w A0_1 A74, ⟨m109, s0.Number, s0.Frames, A0_1, c0_1, rfl, hJ108, hB, O1, O2, (Mov.same _ _)⟩, ?_⟩
 rintro m76 _ w80 ⟨i72, xs73, A74, c75, rfl, hJ110, hB, O1, O8, Mv8⟩
 have H := hS78 m76 _ hJ110
 clear hS78 hJ110
 try dsimp only at H ⊢
 refine ⟨_, _, _, (O1.a 1), ?_⟩
 refine brc H (fun h H => ?_) fun h H => ?_
 ·refine ⟨(fun _ => False), _, _, _, noM (O1.a 1), _, _, _, noM (O1.a 1), ?_⟩
  obtain ⟨⟨h0_85, h1_86⟩, H⟩ := H
  obtain ⟨a83, ha84, hat82⟩ := Row.at O8.row h0_85 h1_86
  refine ⟨h0_85, h1_86, a83, ha84, _, ⟨(fun h_ => h_), (hat82 0 _ rfl)⟩, _, ⟨(fun h_ => h_), (hat82 1 _ rfl)⟩, _, ⟨(fun h_ => h_), (hat82 2 _ rfl)⟩, ?_⟩
  have O1 := O1.ext (Ext.drew _)
  have O8 := O8.ext (Ext.drew _)
  have hB := hB.then (Ext.drew _)
  refine qax (fun g9_ w87 L9 P9 e88 => ?_)
  have N1_9 := O1.ne L9
  have N8_9 := O8.qag L9
  have O8 := O8.ext e88
  have O9 := P9
  have L9 := Nat.le_trans hB.size L9
  have hS81 := ((Chg.refl (fun _ => False) w80).then (Ext.drew _)).then e88
  refine ⟨qa2 hS81, ?_⟩
  refine qbI O9 (o := 0) (cs' := #[(iv ((rd xs73 (wrap .i64 ((xs73.length : Int) - 1))).Pc)), (iv ((rd xs73 (wrap .i64 ((xs73.length : Int) - 1))).Stop)), (iv ((rd xs73 (wrap .i64 ((xs73.length : Int) - 1))).Mask))]) rfl rfl (Nat.le_of_ble_eq_true rfl) rfl (fun w89 O9 e90 => ?_)
  have O1 := (O1.ext e88).chg e90 N1_9
  have O8_ := O8.chg e90 N8_9
  have O8 := O8_
  have hB := (hB.then e88).chgb e90 (Or.inl L9)
  obtain ⟨K105, hKK105, H⟩ := qcR H
  refine ⟨fun z_ w_ => z_ = (()) ∧ K105 (()) ∧ Chg (fun k_ => InB A0_1 k_ ∨ k_ = g1_) w w_ ∧ Plc w_ g1_ o1_ 52 R1_ #[(iv i72), (sv A74 xs73.length c75), (sv A0_2 s0.Regs.length c0_2)] ∧ Own el91 w_ 0 A74 c75 xs73, ?_, ?_⟩
  ·refine ⟨_, (O9.a 0), _, (O9.a 1), ?_⟩
   refine brc H (fun h H => ?_) fun h H => ?_
   ·refine ⟨_, (O9.a 0), ?_⟩
    refine brc H (fun h H => ?_) fun h H => ?_
    ·cases hr.trans H.symm
     exact ⟨A74, c75, rfl, O1, (O8.mono (Nat.zero_le _)), Mv8, rfl, hB⟩
    exact ⟨rfl, H, hB, O1, O8⟩
   exact ⟨rfl, H, hB, O1, O8⟩
  rintro _ w92 ⟨rfl, H, hB, O1, O8⟩
  have H := hKK105 _ H
  try dsimp only at H ⊢
  refine ⟨(fun _ => False), _, _, _, noM (O1.a 1), _, _, _, noM (O1.a 1), ?_⟩
  obtain ⟨⟨hh97, hh98⟩, H⟩ := H
  refine and_assoc.1 ⟨⟨hh97, Int.le_trans hh98 (Int.ofNat_le.2 O8.le)⟩, ?_⟩
  rw [show ((wrap .i64 ((xs73.length : Int) - 1)).toNat) = ((List.take ((wrap .i64 ((xs73.length : Int) - 1)).toNat) xs73)).length from by first | rfl | (simp; done) | (simp; omega)]
  have O10 := (O8.take ((wrap .i64 ((xs73.length : Int) - 1)).toNat))
  have O1 := O1.ext (Ext.drew _)
  have O8 := O8.ext (Ext.drew _)
  refine qmx O1 (j := 1) (cs' := #[(iv i72), (sv A74 (((List.take ((wrap .i64 ((xs73.length : Int) - 1)).toNat) xs73)).length) c75), (sv A0_2 s0.Regs.length c0_2)]) rfl rfl (Nat.le_of_ble_eq_true rfl) rfl (fun w99 P1 e100 => ?_)
  have O10 := (O10.ext (Ext.drew _)).chg e100 (O8.qa6 O1.b (by decide))
  have hB := (hB.then (Ext.drew _)).chgb e100 (Or.inr (Or.inr rfl))
  have O1 := P1
  obtain ⟨m101, hm102, hJ103⟩ := H
  exact ⟨m101, hm102, i72, _, A74, c75, rfl, hJ103, hB, O1, O10, Mv8⟩
 cases hr.trans H.symm
 exact ⟨A74, c75, rfl, O1, (O8.mono (Nat.zero_le _)), Mv8, rfl, hB⟩
def qbg.vc (p0 : Addr) (A1 : OA) (n1 c1 : Nat) (w : World) (K : VK) : Prop :=
  (∃ M22 : Nat → Prop, ldSM M22 w (p0.add 1) 0 fun A23 n24 c25 => qa1 (((n24 : Nat) : Int) == 0) (K (.bool false) w.drew) (ldSM M22 w (p0.add 1) 0 fun A26 n27 c28 => ldSM M22 w (p0.add 1) 0 fun A29 n30 c31 => (idx (wrap .i64 (((n30 : Nat) : Int) - 1)) n27 A26 fun a32 => ldIM M22 w ((a32.add (((wrap .i64 (((n30 : Nat) : Int) - 1)).toNat) * 3)).add 0) 0 fun n33 => (idx n33 n1 A1 fun a34 => ldIM M22 w (a34.add ((n33.toNat) * 4)) 0 fun n35 => ldIM M22 w (a34.add ((n33.toNat) * 4)) 1 fun n36 => ldIM M22 w (a34.add ((n33.toNat) * 4)) 2 fun n37 => ldIM M22 w (a34.add ((n33.toNat) * 4)) 3 fun n38 => Cl 121 #[(.agg #[(iv n35), (iv n36), (iv n37), (iv n38)])] w.drew fun v39 w40 => (∃ (b41 : Bool), v39 = (.bool b41) ∧ qac M22 w w40 ∧ qa1 (!b41) (K (.bool false) w40) (ldI w40 (p0.add 0) fun n42 => ldS w40 (p0.add 1) fun A43 n44 c45 => ldS w40 (p0.add 2) fun A46 n47 c48 => Cl 122 #[(.agg #[(iv n42), (sv A43 n44 c45), (sv A46 n47 c48)]), (sv A1 n1 c1)] w40 fun v49 w50 => (∃ (b51 : Bool), v49 = (.bool b51) ∧ qa1 b51 (Cl 171 #[(.pointer (some p0)), (sv A1 n1 c1)] w50 fun v52 w53 => (∃ (b54 : Bool), v52 = (.bool b54) ∧ qa1 (!b54) (K (.bool false) w53) (Cl 132 #[(.pointer (some p0)), (iv ((n1 : Nat) : Int))] w53 fun v55 w56 => (v55 = (.tuple #[]) ∧ K (.bool true) w56)))) (Cl 172 #[(.pointer (some p0)), (sv A1 n1 c1)] w50 fun v57 w58 => (v57 = (.tuple #[]) ∧ Cl 132 #[(.pointer (some p0)), (iv ((n1 : Nat) : Int))] w58 fun v59 w60 => (v59 = (.tuple #[]) ∧ K (.bool true) w60))))))))))

def qbg.ann : Ann := (.seq .l (.seq (.seq .l (.two (.seq .l .l) .l)) (.seq (.seq .l (.two (.seq .l (.two (.seq .l .l) .l)) .l)) (.seq .l (.seq .l .l)))))

theorem qbg.con {s0 : D.Warp} {g1_ c0_1 c0_2 o1_ c1 : Nat} {A0_1 A0_2 A1 : OA} {R1_ : Array Value} {xs1 : List D.Ins} {r : Bool × D.Warp} {w : World} (hp : M.qfr s0 xs1) (hr : r = M.qbg s0 xs1) (O1 : Plc w g1_ o1_ 52 R1_ (wC A0_1 c0_1 A0_2 c0_2 s0)) (O2 : Own el91 w 0 A0_1 c0_1 s0.Frames) (O3 : Own el3 w 0 A0_2 c0_2 s0.Regs) (R1 : Row el84 w A1 xs1) (hc1 : xs1.length ≤ c1) (D1 : xs1 ≠ [] → ∀ g, InB A1 g → ¬ (fun k_ => InB A0_1 k_ ∨ InB A0_2 k_ ∨ k_ = g1_) g) :
    Cl 130 #[(.pointer (some (⟨g1_, o1_, none⟩ : Addr))), (sv A1 xs1.length c1)] w (fun v_ w_ => ∃ (A0_ : OA) (c0_ : Nat) (A1_ : OA) (c1_ : Nat), v_ = (.bool r.1) ∧ Plc w_ g1_ o1_ 52 R1_ (wC A0_ c0_ A1_ c1_ r.2) ∧ Own el91 w_ 0 A0_ c0_ r.2.Frames ∧ Mov w A0_1 A0_ ∧ Own el3 w_ 0 A1_ c1_ r.2.Regs ∧ Mov w A0_2 A1_ ∧ Chg (fun k_ => InB A0_1 k_ ∨ InB A0_2 k_ ∨ k_ = g1_) w w_) := by
 have H := wp.qbg.math s0 xs1 hp
 have hB := Chg.refl (fun k_ => InB A0_1 k_ ∨ InB A0_2 k_ ∨ k_ = g1_) w
 refine begK mixed Tryz.f130 ann (vc (⟨g1_, o1_, none⟩ : Addr) A1 xs1.length c1) ?_
 unfold vc
 unfold wp.qbg at H
 refine ⟨(fun _ => False), _, _, _, noM (O1.a 1), ?_⟩
 refine brc H (fun h H => ?_) fun h H => ?_
 ·have O1 := O1.ext (Ext.drew _)
  have O2 := O2.ext (Ext.drew _)
  have O3 := O3.ext (Ext.drew _)
  have hB := hB.then (Ext.drew _)
  cases hr.trans H.symm
  exact ⟨A0_1, c0_1, A0_2, c0_2, rfl, O1, (O2.mono (Nat.zero_le _)), (Mov.same _ _), (O3.mono (Nat.zero_le _)), (Mov.same _ _), hB⟩
 refine ⟨_, _, _, noM (O1.a 1), _, _, _, noM (O1.a 1), ?_⟩
 obtain ⟨⟨h0_25, h1_26⟩, H⟩ := H
 obtain ⟨a23, ha24, hat22⟩ := Row.at O2.row h0_25 h1_26
 refine ⟨h0_25, h1_26, a23, ha24, _, ⟨(fun h_ => h_), (hat22 0 _ rfl)⟩, ?_⟩
 obtain ⟨⟨h0_30, h1_31⟩, H⟩ := H
 obtain ⟨a28, ha29, hat27⟩ := Row.at (R1.chgS hB D1) h0_30 h1_31
 refine ⟨h0_30, h1_31, a28, ha29, _, ⟨(fun h_ => h_), (hat27 0 _ rfl)⟩, _, ⟨(fun h_ => h_), (hat27 1 _ rfl)⟩, _, ⟨(fun h_ => h_), (hat27 2 _ rfl)⟩, _, ⟨(fun h_ => h_), (hat27 3 _ rfl)⟩, ?_⟩
 have O1 := O1.ext (Ext.drew _)
 have O2 := O2.ext (Ext.drew _)
 have O3 := O3.ext (Ext.drew _)
 have hB := hB.then (Ext.drew _)
 have hS21 := (Chg.refl (fun _ => False) w).then (Ext.drew _)
 obtain ⟨r32, hr33, H⟩ := qad H
 refine (qcz.con hr33 ).mono ?_
 rintro _ w35 ⟨rfl, e36⟩
 have O1 := O1.ext e36
 have O2 := O2.ext e36
 have O3 := O3.ext e36
 have hB := hB.then e36
 have hS21 := hS21.then e36
 refine ⟨r32, rfl, qa2 hS21, ?_⟩
 refine brc H (fun h H => ?_) fun h H => ?_
 ·cases hr.trans H.symm
  exact ⟨A0_1, c0_1, A0_2, c0_2, rfl, O1, (O2.mono (Nat.zero_le _)), (Mov.same _ _), (O3.mono (Nat.zero_le _)), (Mov.same _ _), hB⟩
 refine ⟨_, (O1.a 0), _, _, _, (O1.a 1), _, _, _, (O1.a 2), ?_⟩
 obtain ⟨hp39, H⟩ := H
 obtain ⟨r37, hr38, H⟩ := qad H
 refine (qaV.con hp39 hr38 O2.row O2.le O3.row O3.le (R1.chgS hB D1) hc1).mono ?_
 rintro _ w40 ⟨rfl, e41⟩
 have O1 := O1.ext e41
 have O2 := O2.ext e41
 have O3 := O3.ext e41
 have hB := hB.then e41
 refine ⟨r37, rfl, ?_⟩
 refine brc H (fun h H => ?_) fun h H => ?_
 ·obtain ⟨hp44, H⟩ := H
  obtain ⟨r42, hr43, H⟩ := qad H
  refine (qaM.con hp44 hr43 O1 (O2.mono (Nat.zero_le _)) O3.row O3.le (R1.chgS hB D1) hc1 (fun _ => (fun g h_ => (fun hS_ => hS_.elim (((Own.qaq O3 O2 (by decide))).inb g h_) ((qcg (O3.qa6 O1.b (by decide))) g h_)))) (fun hx_ => (fun g h_ => (fun hS_ => hS_.elim ((fun g h_ hS_ => D1 hx_ g h_ (Or.inl hS_)) g h_) ((fun g h_ hS_ => D1 hx_ g h_ (Or.inr (Or.inr hS_))) g h_))))).mono ?_
  rintro _ w45 ⟨A47, c48, rfl, Q1, Q5, Mv5, hq49, e46⟩
  simp only [bC, wC, hq49] at Q1
  have Mw5 := Mov.trans (Mov.same w A0_1) Mv5 hB.size
  have O3 := O3.chgS e46 (fun g h_ => (fun hS_ => hS_.elim (((Own.qaq O3 O2 (by decide))).inb g h_) ((qcg (O3.qa6 O1.b (by decide))) g h_)))
  have hB := hB.chg e46 (fun g => (fun hS_ => hS_.elim ((fun g h_ => (Or.inr (Or.inl h_))) g) ((fun g h_ => Or.inr (Or.inr (Or.inr h_))) g)))
  have O1 := Q1
  have O5 := Q5
  refine ⟨r42.1, rfl, ?_⟩
  refine brc H (fun h H => ?_) fun h H => ?_
  ·cases hr.trans H.symm
   exact ⟨A47, c48, A0_2, c0_2, rfl, O1, (O5.mono (Nat.zero_le _)), Mw5, (O3.mono (Nat.zero_le _)), (Mov.same _ _), hB⟩
  obtain ⟨hp52, H⟩ := H
  obtain ⟨r50, hr51, H⟩ := qad H
  refine (qbw.con hp52 hr51 O1 (O5.mono (Nat.zero_le _)) O3.row O3.le (fun _ => (fun g h_ => (fun hS_ => hS_.elim (((Own.qaq O3 O5 (by decide))).inb g h_) ((qcg (O3.qa6 O1.b (by decide))) g h_))))).mono ?_
  rintro _ w53 ⟨A55, c56, rfl, Q1, Q6, Mv6, hq57, e54⟩
  simp only [bC, wC, hq57] at Q1
  have Mw6 := Mov.trans Mw5 Mv6 hB.size
  have O3 := O3.chgS e54 (fun g h_ => (fun hS_ => hS_.elim (((Own.qaq O3 O5 (by decide))).inb g h_) ((qcg (O3.qa6 O1.b (by decide))) g h_)))
  have hB := hB.chg e54 (fun g => (fun hS_ => hS_.elim ((fun g h_ => (qh4 Mw5 h_ (fun h_ => (Or.inl h_)))) g) ((fun g h_ => Or.inr (Or.inr (Or.inr h_))) g)))
  have O1 := Q1
  have O6 := Q6
  refine ⟨rfl, ?_⟩
  cases hr.trans H.symm
  exact ⟨A55, c56, A0_2, c0_2, rfl, O1, (O6.mono (Nat.zero_le _)), Mw6, (O3.mono (Nat.zero_le _)), (Mov.same _ _), hB⟩
 obtain ⟨hp61, H⟩ := H
 obtain ⟨r59, hr60, H⟩ := qad H
 refine (qba.con hp61 hr60 O1 (O2.mono (Nat.zero_le _)) (O3.mono (Nat.zero_le _)) (R1.chgS hB D1) hc1 (fun hx_ => (fun g h_ => (fun hS_ => hS_.elim ((fun g h_ hS_ => D1 hx_ g h_ (Or.inl hS_)) g h_) (fun hS_ => hS_.elim ((fun g h_ hS_ => D1 hx_ g h_ (Or.inr (Or.inl hS_))) g h_) ((fun g h_ hS_ => D1 hx_ g h_ (Or.inr (Or.inr hS_))) g h_)))))).mono ?_
 rintro _ w62 ⟨A64, c65, A66, c67, rfl, Q1, Q7, Mv7, Q8, Mv8, e63⟩
 have Mw7 := Mov.trans (Mov.same w A0_1) Mv7 hB.size
 have Mw8 := Mov.trans (Mov.same w A0_2) Mv8 hB.size
 have hB := hB.chg e63 (fun g => (fun hS_ => hS_.elim ((fun g h_ => (Or.inr (Or.inl h_))) g) (fun hS_ => hS_.elim ((fun g h_ => (Or.inr (Or.inr (Or.inl h_)))) g) ((fun g h_ => Or.inr (Or.inr (Or.inr h_))) g))))
 have O1 := Q1
 have O7 := Q7
 have O8 := Q8
 refine ⟨rfl, ?_⟩
 obtain ⟨hp70, H⟩ := H
 obtain ⟨r68, hr69, H⟩ := qad H
 refine (qbw.con hp70 hr69 O1 (O7.mono (Nat.zero_le _)) O8.row O8.le (fun _ => (fun g h_ => (fun hS_ => hS_.elim (((Own.qaq O8 O7 (by decide))).inb g h_) ((qcg (O8.qa6 O1.b (by decide))) g h_))))).mono ?_
 rintro _ w71 ⟨A73, c74, rfl, Q1, Q9, Mv9, hq75, e72⟩
 simp only [bC, wC, hq75] at Q1
 have Mw9 := Mov.trans Mw7 Mv9 hB.size
 have O8 := O8.chgS e72 (fun g h_ => (fun hS_ => hS_.elim (((Own.qaq O8 O7 (by decide))).inb g h_) ((qcg (O8.qa6 O1.b (by decide))) g h_)))
 have hB := hB.chg e72 (fun g => (fun hS_ => hS_.elim ((fun g h_ => (qh4 Mw7 h_ (fun h_ => (Or.inl h_)))) g) ((fun g h_ => Or.inr (Or.inr (Or.inr h_))) g)))
 have O1 := Q1
 have O9 := Q9
 refine ⟨rfl, ?_⟩
 cases hr.trans H.symm
 exact ⟨A73, c74, A66, c67, rfl, O1, (O9.mono (Nat.zero_le _)), Mw9, (O8.mono (Nat.zero_le _)), Mw8, hB⟩
def qcN.vc (p0 : Addr) (x1 : Int) (w : World) (K : VK) : Prop :=
  Cl 67 #[(.pointer (some p0)), (iv x1)] w fun v21 w22 => (∃ (n23 : Int), v21 = (iv n23) ∧ K (.bool (n23 == 0)) w22)

def qcN.ann : Ann := (.seq .l (.seq .l .l))

theorem qcN.con {s0 : D.Cur} {g1_ c0_0 : Nat} {A0_0 : OA} {x1 : Int} {r : Bool × D.Cur} {w : World} (hp : M.qfb s0 x1) (hr : r = M.qcN s0 x1) (O1 : Blk w g1_ 129 #[(sv A0_0 s0.b.length c0_0), (iv s0.i), (iv s0.h)]) (R0_0 : Row el5 w A0_0 s0.b) (hc0_0 : s0.b.length ≤ c0_0) (D0_0 : s0.b ≠ [] → ∀ g, InB A0_0 g → ¬ (fun k_ => k_ = g1_) g) :
    Cl 116 #[(.pointer (some (bx g1_))), (iv x1)] w (fun v_ w_ => v_ = (.bool r.1) ∧ Blk w_ g1_ 129 #[(sv A0_0 r.2.b.length c0_0), (iv r.2.i), (iv r.2.h)] ∧ r.2.b = s0.b ∧ Chg (fun k_ => k_ = g1_) w w_) := by
 have H := wp.qcN.math s0 x1 hp
 have hB := Chg.refl (fun k_ => k_ = g1_) w
 refine begK mixed Tryz.f116 ann (vc (bx g1_) x1) ?_
 unfold vc
 unfold wp.qcN at H
 obtain ⟨hp23, H⟩ := H
 obtain ⟨r21, hr22, H⟩ := qad H
 refine (qa0.con hp23 hr22 O1 (R0_0.chgS hB D0_0) hc0_0 (fun hx_ => (fun g h_ hS_ => D0_0 hx_ g h_ hS_))).mono ?_
 rintro _ w24 ⟨rfl, Q1, hq26, e25⟩
 simp only [bC, wC, hq26] at Q1
 have hB := hB.chg e25 (fun g h_ => Or.inr h_)
 have O1 := Q1
 refine ⟨r21.1, rfl, ?_⟩
 cases hr.trans H.symm
 exact ⟨rfl, O1, rfl, hB⟩
def qaT.vc (p0 : Addr) (A1 : OA) (n1 c1 : Nat) (x2 : Int) (w : World) (K : VK) : Prop :=
  Cl 67 #[(.pointer (some p0)), (iv 4)] w fun v21 w22 => (∃ (n23 : Int), v21 = (iv n23) ∧ qdA (σ := (OA × Nat × Nat) × Int × Unit) (fun z24 w25 next26 => qa1 (decide (z24.2.1 > 0)) (qa1 (decide (((z24.1.2.1 : Nat) : Int) < 20)) (Cl 67 #[(.pointer (some p0)), (iv 5)] w25 fun v28 w29 => (∃ (n30 : Int), v28 = (iv n30) ∧ qa1 (n30 == 0) (qa1 (x2 == 0) (next26 ((z24.1.1, z24.1.2.1, z24.1.2.2), (wrap .i64 (z24.2.1 - 1)), ()) w29) (Cl 67 #[(.pointer (some p0)), (iv 4)] w29 fun v31 w32 => (∃ (n33 : Int), v31 = (iv n33) ∧ Run Tryz.prog (Instr.buildSlice 30 1 #[(0, (.agg #[(iv 10), (iv n33), (iv 0), (iv 0)]))]) w32 fun v34 w35 => ∃ (A36 : OA) (n37 c38 : Nat), v34 = .slice A36 n37 c38 ∧ Run Tryz.prog (Builtin.append_ #[30, 30] 30 #[(sv z24.1.1 z24.1.2.1 z24.1.2.2), (sv A36 n37 c38)]) w35 fun v39 w40 => ∃ (A41 : OA) (n42 c43 : Nat), v39 = .slice A41 n42 c43 ∧ Cl 141 #[(.pointer (some p0)), (sv A41 n42 c43), (iv (wrap .i64 (x2 - 1)))] w40 fun v44 w45 => (∃ (A46 : OA) (n47 c48 : Nat), v44 = (sv A46 n47 c48) ∧ Cl 116 #[(.pointer (some p0)), (iv 2)] w45 fun v49 w50 => (∃ (b51 : Bool), v49 = (.bool b51) ∧ qa1 b51 ((idx ((z24.1.2.1 : Nat) : Int) n47 A46 fun a52 => qa7 ((a52.add ((((z24.1.2.1 : Nat) : Int).toNat) * 4)).add 2) [(iv ((n47 : Nat) : Int))] 0 w50 fun w53 => next26 ((A46, n47, c48), (wrap .i64 (z24.2.1 - 1)), ()) w53)) (Run Tryz.prog (Instr.buildSlice 30 1 #[(0, (.agg #[(iv 11), (iv 0), (iv 0), (iv 0)]))]) w50 fun v54 w55 => ∃ (A56 : OA) (n57 c58 : Nat), v54 = .slice A56 n57 c58 ∧ Run Tryz.prog (Builtin.append_ #[30, 30] 30 #[(sv A46 n47 c48), (sv A56 n57 c58)]) w55 fun v59 w60 => ∃ (A61 : OA) (n62 c63 : Nat), v59 = .slice A61 n62 c63 ∧ (idx ((z24.1.2.1 : Nat) : Int) n62 A61 fun a64 => qa7 ((a64.add ((((z24.1.2.1 : Nat) : Int).toNat) * 4)).add 2) [(iv ((n62 : Nat) : Int))] 0 w60 fun w65 => Cl 141 #[(.pointer (some p0)), (sv A61 n62 c63), (iv (wrap .i64 (x2 - 1)))] w65 fun v66 w67 => (∃ (A68 : OA) (n69 c70 : Nat), v66 = (sv A68 n69 c70) ∧ (idx ((n47 : Nat) : Int) n69 A68 fun a71 => qa7 ((a71.add ((((n47 : Nat) : Int).toNat) * 4)).add 2) [(iv ((n69 : Nat) : Int))] 0 w67 fun w72 => next26 ((A68, n69, c70), (wrap .i64 (z24.2.1 - 1)), ()) w72))))))))) (qa1 (n30 == 1) (qa1 (x2 == 0) (next26 ((z24.1.1, z24.1.2.1, z24.1.2.2), (wrap .i64 (z24.2.1 - 1)), ()) w29) (qa1 (decide (((z24.1.2.1 : Nat) : Int) > 14)) (next26 ((z24.1.1, z24.1.2.1, z24.1.2.2), (wrap .i64 (z24.2.1 - 1)), ()) w29) (Run Tryz.prog (Instr.buildSlice 30 1 #[(0, (.agg #[(iv 8), (iv 3), (iv 0), (iv 0)]))]) w29 fun v74 w75 => ∃ (A76 : OA) (n77 c78 : Nat), v74 = .slice A76 n77 c78 ∧ Run Tryz.prog (Builtin.append_ #[30, 30] 30 #[(sv z24.1.1 z24.1.2.1 z24.1.2.2), (sv A76 n77 c78)]) w75 fun v79 w80 => ∃ (A81 : OA) (n82 c83 : Nat), v79 = .slice A81 n82 c83 ∧ Run Tryz.prog (Instr.buildSlice 30 1 #[(0, (.agg #[(iv 10), (iv 3), (iv 0), (iv 0)]))]) w80 fun v84 w85 => ∃ (A86 : OA) (n87 c88 : Nat), v84 = .slice A86 n87 c88 ∧ Run Tryz.prog (Builtin.append_ #[30, 30] 30 #[(sv A81 n82 c83), (sv A86 n87 c88)]) w85 fun v89 w90 => ∃ (A91 : OA) (n92 c93 : Nat), v89 = .slice A91 n92 c93 ∧ Run Tryz.prog (Instr.buildSlice 30 3 #[(0, (.agg #[(iv 3), (iv 0), (iv 0), (iv 1)])), (1, (.agg #[(iv 1), (iv 2), (iv 1), (iv 0)])), (2, (.agg #[(iv 4), (iv 3), (iv 3), (iv 2)]))]) w90 fun v94 w95 => ∃ (A96 : OA) (n97 c98 : Nat), v94 = .slice A96 n97 c98 ∧ Run Tryz.prog (Builtin.append_ #[30, 30] 30 #[(sv A91 n92 c93), (sv A96 n97 c98)]) w95 fun v99 w100 => ∃ (A101 : OA) (n102 c103 : Nat), v99 = .slice A101 n102 c103 ∧ Run Tryz.prog (Instr.buildSlice 30 1 #[(0, (.agg #[(iv 11), (iv 0), (iv ((n82 : Nat) : Int)), (iv 0)]))]) w100 fun v104 w105 => ∃ (A106 : OA) (n107 c108 : Nat), v104 = .slice A106 n107 c108 ∧ Run Tryz.prog (Builtin.append_ #[30, 30] 30 #[(sv A101 n102 c103), (sv A106 n107 c108)]) w105 fun v109 w110 => ∃ (A111 : OA) (n112 c113 : Nat), v109 = .slice A111 n112 c113 ∧ (idx ((n82 : Nat) : Int) n112 A111 fun a114 => qa7 ((a114.add ((((n82 : Nat) : Int).toNat) * 4)).add 2) [(iv ((n112 : Nat) : Int))] 0 w110 fun w115 => next26 ((A111, n112, c113), (wrap .i64 (z24.2.1 - 1)), ()) w115)))) (Cl 143 #[(.pointer (some p0))] w29 fun v116 w117 => (∃ (n118 : Int), True ∧ ∃ (n119 : Int), True ∧ ∃ (n120 : Int), True ∧ ∃ (n121 : Int), True ∧ v116 = (.agg #[(iv n118), (iv n119), (iv n120), (iv n121)]) ∧ Run Tryz.prog (Instr.buildSlice 30 1 #[(0, (.agg #[(iv n118), (iv n119), (iv n120), (iv n121)]))]) w117 fun v122 w123 => ∃ (A124 : OA) (n125 c126 : Nat), v122 = .slice A124 n125 c126 ∧ Run Tryz.prog (Builtin.append_ #[30, 30] 30 #[(sv z24.1.1 z24.1.2.1 z24.1.2.2), (sv A124 n125 c126)]) w123 fun v127 w128 => ∃ (A129 : OA) (n130 c131 : Nat), v127 = .slice A129 n130 c131 ∧ next26 ((A129, n130, c131), (wrap .i64 (z24.2.1 - 1)), ()) w128))))) (K (sv z24.1.1 z24.1.2.1 z24.1.2.2) w25)) (K (sv z24.1.1 z24.1.2.1 z24.1.2.2) w25)) ((A1, n1, c1), n23, ()) w22)

def qaT.ann : Ann := (.seq .l (.seq (.seq .l (.one (.loop [(1, .sl), (7, .int .i64)] (.seq (.seq .l (.two .l .l)) (.seq (.one (.seq .l (.one (.seq .l (.two (.seq (.seq .l (.two .l .l)) (.seq .l (.seq .l (.seq .l (.seq .l (.seq (.seq .l (.two (.seq .l .l) .l)) (.seq .l (.seq .l (.seq .l (.seq .l .l)))))))))) (.seq .l (.two (.seq (.seq .l (.two .l .l)) (.seq .l (.seq .l (.seq .l (.seq .l (.seq .l .l)))))) .l))))))) .l))))) (.seq .l .l)))

theorem qaT.con_ (n_ : Nat) : ∀ {s0 : D.Cur} {g1_ : Nat} {A0_0 : OA} {c0_0 : Nat} {xs1 : List D.Ins} {A1 : OA} {c1 : Nat} {x2 : Int} {r : (List D.Ins) × D.Cur} {w : World} (hp : M.qdS s0 xs1 x2) (hr : r = M.qaT s0 xs1 x2) (O1 : Blk w g1_ 129 #[(sv A0_0 s0.b.length c0_0), (iv s0.i), (iv s0.h)]) (R0_0 : Row el5 w A0_0 s0.b) (hc0_0 : s0.b.length ≤ c0_0) (O3 : Own el84 w 0 A1 c1 xs1) (D0_0 : s0.b ≠ [] → ∀ g, InB A0_0 g → ¬ (fun k_ => k_ = g1_ ∨ InB A1 k_) g), (x2).toNat = n_ →
    Cl 141 #[(.pointer (some (bx g1_))), (sv A1 xs1.length c1), (iv x2)] w (fun v_ w_ => ∃ (A0_ : OA) (c0_ : Nat), v_ = (sv A0_ r.1.length c0_) ∧ Own el84 w_ 0 A0_ c0_ r.1 ∧ Mov w A1 A0_ ∧ Blk w_ g1_ 129 #[(sv A0_0 r.2.b.length c0_0), (iv r.2.i), (iv r.2.h)] ∧ r.2.b = s0.b ∧ Chg (fun k_ => k_ = g1_ ∨ InB A1 k_) w w_) := by
  induction n_ using Nat.strongRecOn with
  | ind n_ IH_ =>
  intro s0 g1_ A0_0 c0_0 xs1 A1 c1 x2 r w hp hr O1 R0_0 hc0_0 O3 D0_0 hn_
  have H := wp.qaT.math s0 xs1 x2 hp
  have hB := Chg.refl (fun k_ => k_ = g1_ ∨ InB A1 k_) w
  refine qoA mixed (fn := Tryz.f141) (by kernel_rfl) (by kernel_rfl) (an := qaT.ann) (V := qaT.vc (bx g1_) A1 xs1.length c1 x2) (by kernel_rfl) ?_
  unfold qaT.vc
  unfold wp.qaT at H
  obtain ⟨hp23, H⟩ := H
  obtain ⟨r21, hr22, H⟩ := qad H
  refine (qa0.con hp23 hr22 O1 (R0_0.chgS hB D0_0) hc0_0 (fun hx_ => (fun g h_ hS_ => D0_0 hx_ g h_ (Or.inl hS_)))).mono ?_
  rintro _ w24 ⟨rfl, Q1, hq26, e25⟩
  simp only [bC, wC, hq26] at Q1
  have O3 := O3.chgS e25 (qcg (O3.qa6 O1 (by decide)))
  have hB := hB.chg e25 (fun g h_ => Or.inr (Or.inl h_))
  have O1 := Q1
  refine ⟨r21.1, rfl, ?_⟩
  obtain ⟨J49, ⟨m212, hJ211⟩, hS50⟩ := H
  refine ⟨fun m_ z_ w_ => ∃ (xs42 : List D.Ins) (i45 i46 i47 : Int) (A43 : OA) (c44 : Nat), z_ = ((A43, xs42.length, c44), i45, ()) ∧ J49 m_ (xs42, i45, i46, i47, ()) ∧ Chg (fun k_ => k_ = g1_ ∨ InB A1 k_) w w_ ∧ Own el84 w_ 0 A43 c44 xs42 ∧ Mov w A1 A43 ∧ Blk w_ g1_ 129 #[(sv A0_0 s0.b.length c0_0), (iv i46), (iv i47)], ⟨m212, xs1, r21.1, r21.2.i, r21.2.h, A1, c1, rfl, hJ211, hB, O3, (Mov.same _ _), O1⟩, ?_⟩
  rintro m48 _ w52 ⟨xs42, i45, i46, i47, A43, c44, rfl, hJ213, hB, O5, Mv5, O1⟩
  have H := hS50 m48 _ hJ213
  clear hS50 hJ213
  try dsimp only at H ⊢
  refine brc H (fun hc209 H => ?_) (fun hc209 H => ?_)
  ·refine brc H (fun hc208 H => ?_) (fun hc208 H => ?_)
   ·obtain ⟨hp55, H⟩ := H
    obtain ⟨r53, hr54, H⟩ := qad H
    refine (qa0.con hp55 hr54 O1 (R0_0.chgS hB D0_0) hc0_0 (fun hx_ => (fun g h_ hS_ => D0_0 hx_ g h_ (Or.inl hS_)))).mono ?_
    rintro _ w56 ⟨rfl, Q1, hq58, e57⟩
    simp only [bC, wC, hq58] at Q1
    have O5 := O5.chgS e57 (qcg (O5.qa6 O1 (by decide)))
    have hB := hB.chg e57 (fun g h_ => Or.inr (Or.inl h_))
    have O1 := Q1
    refine ⟨r53.1, rfl, ?_⟩
    refine brc H (fun hc207 H => ?_) (fun hc207 H => ?_)
    ·refine brc H (fun hc137 H => ?_) (fun hc137 H => ?_)
     ·obtain ⟨m59, hm60, hJ61⟩ := H
      exact ⟨m59, hm60, xs42, (wrap .i64 (i45 - 1)), r53.2.i, r53.2.h, A43, c44, rfl, hJ61, hB, O5, Mv5, O1⟩
     obtain ⟨hp64, H⟩ := H
     obtain ⟨r62, hr63, H⟩ := qad H
     refine (qa0.con hp64 hr63 O1 (R0_0.chgS hB D0_0) hc0_0 (fun hx_ => (fun g h_ hS_ => D0_0 hx_ g h_ (Or.inl hS_)))).mono ?_
     rintro _ w65 ⟨rfl, Q1, hq67, e66⟩
     simp only [bC, wC, hq67] at Q1
     have O5 := O5.chgS e66 (qcg (O5.qa6 O1 (by decide)))
     have hB := hB.chg e66 (fun g h_ => Or.inr (Or.inl h_))
     have O1 := Q1
     refine ⟨r62.1, rfl, ?_⟩
     refine qap el84 ([(⟨10, r62.1, 0, 0⟩ : D.Ins)] : List D.Ins) (fun _ => by kernel_rfl) rfl (fun A68 w69 P6 e70 => ?_)
     have N6_1 := P6.qa8 O1.lt
     have N5_6 := Own.qep O5 P6 (Nat.le_refl _)
     have O1 := O1.ext e70
     have O5 := O5.ext e70
     have O6 := P6.mono hB.size
     have hB := hB.then e70
     obtain ⟨hl75, H⟩ := H
     refine qgZ qeh qeh.under O5 O6.row (Nat.zero_le _) rfl (by first | rfl | omega | (simp; done) | (simp; omega)) hl75 (fun A71 c72 w73 P5 e74 => ?_)
     have N5_1_ := Apart.app (O5.qa6 O1 (by decide)) e74 O1.lt
     have O1 := O1.app e74 (O5.qa6 O1 (by decide))
     have N6_5_ := qcy.app (N5_6).symm e74 O6
     have O6 := O6.app e74 (N5_6).symm
     have N5_1 := N5_1_
     have N6_5 := N6_5_
     have hBs_ := hB.size
     have hB := hB.app e74 (fun g h_ => (qh4 Mv5 h_ (fun h_ => (Or.inr h_))))
     have O5 := P5
     have Mw5 := Mov.trans Mv5 e74.blk hBs_
     obtain ⟨hp78, H⟩ := H
     obtain ⟨r76, hr77, H⟩ := qad H
     refine (IH_ _ (by rw [← hn_]; exact qaT.dec hp (by assumption)) hp78 hr77 O1 (R0_0.chgS hB D0_0) hc0_0 (O5.mono (Nat.zero_le _)) (fun hx_ => (fun g h_ => (fun hS_ => hS_.elim ((fun g h_ hS_ => D0_0 hx_ g h_ (Or.inl hS_)) g h_) ((fun g h_ hS_ => (qh4 Mw5 hS_ (fun h_ => (Or.inr h_))).elim (fun h3_ => Nat.not_le.2 (R0_0.old hx_ g h_) h3_) (D0_0 hx_ g h_)) g h_)))) rfl).mono ?_
     rintro _ w79 ⟨A81, c82, rfl, P7, Mv7, Q1, hq83, e80⟩
     simp only [bC, wC, hq83] at Q1
     have Mw7 := Mov.trans Mw5 Mv7 hB.size
     have hB := hB.chg e80 (fun g => (fun hS_ => hS_.elim ((fun g h_ => Or.inr (Or.inl h_)) g) ((fun g h_ => (qh4 Mw5 h_ (fun h_ => (Or.inr h_)))) g)))
     have O1 := Q1
     have O7 := P7
     refine ⟨A81, r76.1.length, c82, rfl, ?_⟩
     obtain ⟨hp86, H⟩ := H
     obtain ⟨r84, hr85, H⟩ := qad H
     refine (qcN.con hp86 hr85 O1 (R0_0.chgS hB D0_0) hc0_0 (fun hx_ => (fun g h_ hS_ => D0_0 hx_ g h_ (Or.inl hS_)))).mono ?_
     rintro _ w87 ⟨rfl, Q1, hq89, e88⟩
     simp only [bC, wC, hq89] at Q1
     have O7 := O7.chgS e88 (qcg (O7.qa6 O1 (by decide)))
     have hB := hB.chg e88 (fun g h_ => Or.inr (Or.inl h_))
     have O1 := Q1
     refine ⟨r84.1, rfl, ?_⟩
     refine brc H (fun hc136 H => ?_) (fun hc136 H => ?_)
     ·obtain ⟨⟨h0_93, h1_94⟩, H⟩ := H
      obtain ⟨a91, ha92, hat90⟩ := Row.at O7.row h0_93 h1_94
      refine ⟨h0_93, h1_94, a91, ha92, ?_⟩
      refine Own.storeAt O7 ha92 h0_93 h1_94 2 [(iv (r76.1.length : Int))] (⟨(rd r76.1 (xs42.length : Int)).Op, (rd r76.1 (xs42.length : Int)).A, (r76.1.length : Int), (rd r76.1 (xs42.length : Int)).C⟩ : D.Ins) rfl (Nat.le_of_ble_eq_true rfl) rfl (fun w95 P7 e96 hb97 => ?_)
      have O1_ := O1.chg e96 (fun h_ => ((O7.qa6 O1 (by decide))) _ ha92 h_.symm)
      have O1 := O1_
      have hB := hB.chgb e96 (qh4 Mw7 ⟨_, ha92, rfl⟩ (fun h_ => (Or.inr h_)))
      have O7 := P7
      obtain ⟨m98, hm99, hJ100⟩ := H
      exact ⟨m98, hm99, (List.set r76.1 ((xs42.length : Int).toNat) (⟨(rd r76.1 (xs42.length : Int)).Op, (rd r76.1 (xs42.length : Int)).A, (r76.1.length : Int), (rd r76.1 (xs42.length : Int)).C⟩ : D.Ins)), (wrap .i64 (i45 - 1)), r84.2.i, r84.2.h, A81, c82, (by first | rfl | (simp only [bC, wC, List.length_set])), hJ100, hB, (by first | exact O7 | (simp only [bC, wC, List.length_set]; exact O7)), Mw7, (by first | exact O1 | (simp only [bC, wC, List.length_set]; exact O1))⟩
     refine qap el84 ([(⟨11, 0, 0, 0⟩ : D.Ins)] : List D.Ins) (fun _ => by kernel_rfl) rfl (fun A101 w102 P8 e103 => ?_)
     have N8_1 := P8.qa8 O1.lt
     have N7_8 := Own.qep O7 P8 (Nat.le_refl _)
     have O1 := O1.ext e103
     have O7 := O7.ext e103
     have O8 := P8.mono hB.size
     have hB := hB.then e103
     obtain ⟨hl108, H⟩ := H
     refine qgZ qeh qeh.under O7 O8.row (Nat.zero_le _) rfl (by first | rfl | omega | (simp; done) | (simp; omega)) hl108 (fun A104 c105 w106 P7 e107 => ?_)
     have N7_1_ := Apart.app (O7.qa6 O1 (by decide)) e107 O1.lt
     have O1 := O1.app e107 (O7.qa6 O1 (by decide))
     have N8_7_ := qcy.app (N7_8).symm e107 O8
     have O8 := O8.app e107 (N7_8).symm
     have N7_1 := N7_1_
     have N8_7 := N8_7_
     have hBs_ := hB.size
     have hB := hB.app e107 (fun g h_ => (qh4 Mw7 h_ (fun h_ => (Or.inr h_))))
     have O7 := P7
     have Mw7 := Mov.trans Mw7 e107.blk hBs_
     obtain ⟨⟨h0_112, h1_113⟩, H⟩ := H
     obtain ⟨a110, ha111, hat109⟩ := Row.at O7.row h0_112 h1_113
     refine ⟨h0_112, h1_113, a110, ha111, ?_⟩
     refine Own.storeAt O7 ha111 h0_112 h1_113 2 [(iv (((r76.1 ++ ([(⟨11, 0, 0, 0⟩ : D.Ins)] : List D.Ins))).length : Int))] (⟨(rd (r76.1 ++ ([(⟨11, 0, 0, 0⟩ : D.Ins)] : List D.Ins)) (xs42.length : Int)).Op, (rd (r76.1 ++ ([(⟨11, 0, 0, 0⟩ : D.Ins)] : List D.Ins)) (xs42.length : Int)).A, (((r76.1 ++ ([(⟨11, 0, 0, 0⟩ : D.Ins)] : List D.Ins))).length : Int), (rd (r76.1 ++ ([(⟨11, 0, 0, 0⟩ : D.Ins)] : List D.Ins)) (xs42.length : Int)).C⟩ : D.Ins) rfl (Nat.le_of_ble_eq_true rfl) rfl (fun w114 P7 e115 hb116 => ?_)
     have O1_ := O1.chg e115 (fun h_ => (N7_1) _ ha111 h_.symm)
     have O1 := O1_
     have hB := hB.chgb e115 (qh4 Mw7 ⟨_, ha111, rfl⟩ (fun h_ => (Or.inr h_)))
     have O7 := P7
     obtain ⟨hp119, H⟩ := H
     obtain ⟨r117, hr118, H⟩ := qad H
     refine (qhX (by first | (simp only [bC, wC, List.length_set]; done) | (simp; done)) (IH_ _ (by rw [← hn_]; exact qaT.dec hp (by assumption)) hp119 hr118 O1 (R0_0.chgS hB D0_0) hc0_0 (O7.mono (Nat.zero_le _)) (fun hx_ => (fun g h_ => (fun hS_ => hS_.elim ((fun g h_ hS_ => D0_0 hx_ g h_ (Or.inl hS_)) g h_) ((fun g h_ hS_ => (qh4 Mw7 hS_ (fun h_ => (Or.inr h_))).elim (fun h3_ => Nat.not_le.2 (R0_0.old hx_ g h_) h3_) (D0_0 hx_ g h_)) g h_)))) rfl)).mono ?_
     rintro _ w120 ⟨A122, c123, rfl, P9, Mv9, Q1, hq124, e121⟩
     simp only [bC, wC, hq124] at Q1
     have Mw9 := Mov.trans Mw7 Mv9 hB.size
     have hB := hB.chg e121 (fun g => (fun hS_ => hS_.elim ((fun g h_ => Or.inr (Or.inl h_)) g) ((fun g h_ => (qh4 Mw7 h_ (fun h_ => (Or.inr h_)))) g)))
     have O1 := Q1
     have O9 := P9
     refine ⟨A122, r117.1.length, c123, rfl, ?_⟩
     obtain ⟨⟨h0_128, h1_129⟩, H⟩ := H
     obtain ⟨a126, ha127, hat125⟩ := Row.at O9.row h0_128 h1_129
     refine ⟨h0_128, h1_129, a126, ha127, ?_⟩
     refine Own.storeAt O9 ha127 h0_128 h1_129 2 [(iv (r117.1.length : Int))] (⟨(rd r117.1 (r76.1.length : Int)).Op, (rd r117.1 (r76.1.length : Int)).A, (r117.1.length : Int), (rd r117.1 (r76.1.length : Int)).C⟩ : D.Ins) rfl (Nat.le_of_ble_eq_true rfl) rfl (fun w130 P9 e131 hb132 => ?_)
     have O1_ := O1.chg e131 (fun h_ => ((O9.qa6 O1 (by decide))) _ ha127 h_.symm)
     have O1 := O1_
     have hB := hB.chgb e131 (qh4 Mw9 ⟨_, ha127, rfl⟩ (fun h_ => (Or.inr h_)))
     have O9 := P9
     obtain ⟨m133, hm134, hJ135⟩ := H
     exact ⟨m133, hm134, (List.set r117.1 ((r76.1.length : Int).toNat) (⟨(rd r117.1 (r76.1.length : Int)).Op, (rd r117.1 (r76.1.length : Int)).A, (r117.1.length : Int), (rd r117.1 (r76.1.length : Int)).C⟩ : D.Ins)), (wrap .i64 (i45 - 1)), r117.2.i, r117.2.h, A122, c123, (by first | rfl | (simp only [bC, wC, List.length_set])), hJ135, hB, (by first | exact O9 | (simp only [bC, wC, List.length_set]; exact O9)), Mw9, (by first | exact O1 | (simp only [bC, wC, List.length_set]; exact O1))⟩
    refine brc H (fun hc206 H => ?_) (fun hc206 H => ?_)
    ·refine brc H (fun hc188 H => ?_) (fun hc188 H => ?_)
     ·obtain ⟨m138, hm139, hJ140⟩ := H
      exact ⟨m138, hm139, xs42, (wrap .i64 (i45 - 1)), r53.2.i, r53.2.h, A43, c44, rfl, hJ140, hB, O5, Mv5, O1⟩
     refine brc H (fun hc187 H => ?_) (fun hc187 H => ?_)
     ·obtain ⟨m141, hm142, hJ143⟩ := H
      exact ⟨m141, hm142, xs42, (wrap .i64 (i45 - 1)), r53.2.i, r53.2.h, A43, c44, rfl, hJ143, hB, O5, Mv5, O1⟩
     refine qap el84 ([(⟨8, 3, 0, 0⟩ : D.Ins)] : List D.Ins) (fun _ => by kernel_rfl) rfl (fun A144 w145 P10 e146 => ?_)
     have N10_1 := P10.qa8 O1.lt
     have N5_10 := Own.qep O5 P10 (Nat.le_refl _)
     have O1 := O1.ext e146
     have O5 := O5.ext e146
     have O10 := P10.mono hB.size
     have hB := hB.then e146
     obtain ⟨hl151, H⟩ := H
     refine qgZ qeh qeh.under O5 O10.row (Nat.zero_le _) rfl (by first | rfl | omega | (simp; done) | (simp; omega)) hl151 (fun A147 c148 w149 P5 e150 => ?_)
     have N5_1_ := Apart.app (O5.qa6 O1 (by decide)) e150 O1.lt
     have O1 := O1.app e150 (O5.qa6 O1 (by decide))
     have N10_5_ := qcy.app (N5_10).symm e150 O10
     have O10 := O10.app e150 (N5_10).symm
     have N5_1 := N5_1_
     have N10_5 := N10_5_
     have hBs_ := hB.size
     have hB := hB.app e150 (fun g h_ => (qh4 Mv5 h_ (fun h_ => (Or.inr h_))))
     have O5 := P5
     have Mw5 := Mov.trans Mv5 e150.blk hBs_
     refine qap el84 ([(⟨10, 3, 0, 0⟩ : D.Ins)] : List D.Ins) (fun _ => by kernel_rfl) rfl (fun A152 w153 P11 e154 => ?_)
     have N11_1 := P11.qa8 O1.lt
     have N5_11 := Own.qep O5 P11 (Nat.le_refl _)
     have O1 := O1.ext e154
     have O5 := O5.ext e154
     have O11 := P11.mono hB.size
     have hB := hB.then e154
     obtain ⟨hl159, H⟩ := H
     refine qgZ qeh qeh.under O5 O11.row (Nat.zero_le _) rfl (by first | rfl | omega | (simp; done) | (simp; omega)) hl159 (fun A155 c156 w157 P5 e158 => ?_)
     have N5_1_ := Apart.app N5_1 e158 O1.lt
     have O1 := O1.app e158 N5_1
     have N11_5_ := qcy.app (N5_11).symm e158 O11
     have O11 := O11.app e158 (N5_11).symm
     have N5_1 := N5_1_
     have N11_5 := N11_5_
     have hBs_ := hB.size
     have hB := hB.app e158 (fun g h_ => (qh4 Mw5 h_ (fun h_ => (Or.inr h_))))
     have O5 := P5
     have Mw5 := Mov.trans Mw5 e158.blk hBs_
     refine qap el84 ([(⟨3, 0, 0, 1⟩ : D.Ins), (⟨1, 2, 1, 0⟩ : D.Ins), (⟨4, 3, 3, 2⟩ : D.Ins)] : List D.Ins) (fun _ => by kernel_rfl) rfl (fun A160 w161 P12 e162 => ?_)
     have N12_1 := P12.qa8 O1.lt
     have N5_12 := Own.qep O5 P12 (Nat.le_refl _)
     have O1 := O1.ext e162
     have O5 := O5.ext e162
     have O12 := P12.mono hB.size
     have hB := hB.then e162
     obtain ⟨hl167, H⟩ := H
     refine qgZ qeh qeh.under O5 O12.row (Nat.zero_le _) rfl (by first | rfl | omega | (simp; done) | (simp; omega)) hl167 (fun A163 c164 w165 P5 e166 => ?_)
     have N5_1_ := Apart.app N5_1 e166 O1.lt
     have O1 := O1.app e166 N5_1
     have N12_5_ := qcy.app (N5_12).symm e166 O12
     have O12 := O12.app e166 (N5_12).symm
     have N5_1 := N5_1_
     have N12_5 := N12_5_
     have hBs_ := hB.size
     have hB := hB.app e166 (fun g h_ => (qh4 Mw5 h_ (fun h_ => (Or.inr h_))))
     have O5 := P5
     have Mw5 := Mov.trans Mw5 e166.blk hBs_
     refine qap el84 ([(⟨11, 0, (((xs42 ++ ([(⟨8, 3, 0, 0⟩ : D.Ins)] : List D.Ins))).length : Int), 0⟩ : D.Ins)] : List D.Ins) (fun _ => by kernel_rfl) rfl (fun A168 w169 P13 e170 => ?_)
     have N13_1 := P13.qa8 O1.lt
     have N5_13 := Own.qep O5 P13 (Nat.le_refl _)
     have O1 := O1.ext e170
     have O5 := O5.ext e170
     have O13 := P13.mono hB.size
     have hB := hB.then e170
     obtain ⟨hl175, H⟩ := H
     refine qgZ qeh qeh.under O5 O13.row (Nat.zero_le _) rfl (by first | rfl | omega | (simp; done) | (simp; omega)) hl175 (fun A171 c172 w173 P5 e174 => ?_)
     have N5_1_ := Apart.app N5_1 e174 O1.lt
     have O1 := O1.app e174 N5_1
     have N13_5_ := qcy.app (N5_13).symm e174 O13
     have O13 := O13.app e174 (N5_13).symm
     have N5_1 := N5_1_
     have N13_5 := N13_5_
     have hBs_ := hB.size
     have hB := hB.app e174 (fun g h_ => (qh4 Mw5 h_ (fun h_ => (Or.inr h_))))
     have O5 := P5
     have Mw5 := Mov.trans Mw5 e174.blk hBs_
     obtain ⟨⟨h0_179, h1_180⟩, H⟩ := H
     obtain ⟨a177, ha178, hat176⟩ := Row.at O5.row h0_179 h1_180
     refine ⟨h0_179, h1_180, a177, ha178, ?_⟩
     refine Own.storeAt O5 ha178 h0_179 h1_180 2 [(iv ((((((xs42 ++ ([(⟨8, 3, 0, 0⟩ : D.Ins)] : List D.Ins)) ++ ([(⟨10, 3, 0, 0⟩ : D.Ins)] : List D.Ins)) ++ ([(⟨3, 0, 0, 1⟩ : D.Ins), (⟨1, 2, 1, 0⟩ : D.Ins), (⟨4, 3, 3, 2⟩ : D.Ins)] : List D.Ins)) ++ ([(⟨11, 0, (((xs42 ++ ([(⟨8, 3, 0, 0⟩ : D.Ins)] : List D.Ins))).length : Int), 0⟩ : D.Ins)] : List D.Ins))).length : Int))] (⟨(rd ((((xs42 ++ ([(⟨8, 3, 0, 0⟩ : D.Ins)] : List D.Ins)) ++ ([(⟨10, 3, 0, 0⟩ : D.Ins)] : List D.Ins)) ++ ([(⟨3, 0, 0, 1⟩ : D.Ins), (⟨1, 2, 1, 0⟩ : D.Ins), (⟨4, 3, 3, 2⟩ : D.Ins)] : List D.Ins)) ++ ([(⟨11, 0, (((xs42 ++ ([(⟨8, 3, 0, 0⟩ : D.Ins)] : List D.Ins))).length : Int), 0⟩ : D.Ins)] : List D.Ins)) (((xs42 ++ ([(⟨8, 3, 0, 0⟩ : D.Ins)] : List D.Ins))).length : Int)).Op, (rd ((((xs42 ++ ([(⟨8, 3, 0, 0⟩ : D.Ins)] : List D.Ins)) ++ ([(⟨10, 3, 0, 0⟩ : D.Ins)] : List D.Ins)) ++ ([(⟨3, 0, 0, 1⟩ : D.Ins), (⟨1, 2, 1, 0⟩ : D.Ins), (⟨4, 3, 3, 2⟩ : D.Ins)] : List D.Ins)) ++ ([(⟨11, 0, (((xs42 ++ ([(⟨8, 3, 0, 0⟩ : D.Ins)] : List D.Ins))).length : Int), 0⟩ : D.Ins)] : List D.Ins)) (((xs42 ++ ([(⟨8, 3, 0, 0⟩ : D.Ins)] : List D.Ins))).length : Int)).A, ((((((xs42 ++ ([(⟨8, 3, 0, 0⟩ : D.Ins)] : List D.Ins)) ++ ([(⟨10, 3, 0, 0⟩ : D.Ins)] : List D.Ins)) ++ ([(⟨3, 0, 0, 1⟩ : D.Ins), (⟨1, 2, 1, 0⟩ : D.Ins), (⟨4, 3, 3, 2⟩ : D.Ins)] : List D.Ins)) ++ ([(⟨11, 0, (((xs42 ++ ([(⟨8, 3, 0, 0⟩ : D.Ins)] : List D.Ins))).length : Int), 0⟩ : D.Ins)] : List D.Ins))).length : Int), (rd ((((xs42 ++ ([(⟨8, 3, 0, 0⟩ : D.Ins)] : List D.Ins)) ++ ([(⟨10, 3, 0, 0⟩ : D.Ins)] : List D.Ins)) ++ ([(⟨3, 0, 0, 1⟩ : D.Ins), (⟨1, 2, 1, 0⟩ : D.Ins), (⟨4, 3, 3, 2⟩ : D.Ins)] : List D.Ins)) ++ ([(⟨11, 0, (((xs42 ++ ([(⟨8, 3, 0, 0⟩ : D.Ins)] : List D.Ins))).length : Int), 0⟩ : D.Ins)] : List D.Ins)) (((xs42 ++ ([(⟨8, 3, 0, 0⟩ : D.Ins)] : List D.Ins))).length : Int)).C⟩ : D.Ins) rfl (Nat.le_of_ble_eq_true rfl) rfl (fun w181 P5 e182 hb183 => ?_)
     have O1_ := O1.chg e182 (fun h_ => (N5_1) _ ha178 h_.symm)
     have O1 := O1_
     have hB := hB.chgb e182 (qh4 Mw5 ⟨_, ha178, rfl⟩ (fun h_ => (Or.inr h_)))
     have O5 := P5
     obtain ⟨m184, hm185, hJ186⟩ := H
     exact ⟨m184, hm185, (List.set ((((xs42 ++ ([(⟨8, 3, 0, 0⟩ : D.Ins)] : List D.Ins)) ++ ([(⟨10, 3, 0, 0⟩ : D.Ins)] : List D.Ins)) ++ ([(⟨3, 0, 0, 1⟩ : D.Ins), (⟨1, 2, 1, 0⟩ : D.Ins), (⟨4, 3, 3, 2⟩ : D.Ins)] : List D.Ins)) ++ ([(⟨11, 0, (((xs42 ++ ([(⟨8, 3, 0, 0⟩ : D.Ins)] : List D.Ins))).length : Int), 0⟩ : D.Ins)] : List D.Ins)) ((((xs42 ++ ([(⟨8, 3, 0, 0⟩ : D.Ins)] : List D.Ins))).length : Int).toNat) (⟨(rd ((((xs42 ++ ([(⟨8, 3, 0, 0⟩ : D.Ins)] : List D.Ins)) ++ ([(⟨10, 3, 0, 0⟩ : D.Ins)] : List D.Ins)) ++ ([(⟨3, 0, 0, 1⟩ : D.Ins), (⟨1, 2, 1, 0⟩ : D.Ins), (⟨4, 3, 3, 2⟩ : D.Ins)] : List D.Ins)) ++ ([(⟨11, 0, (((xs42 ++ ([(⟨8, 3, 0, 0⟩ : D.Ins)] : List D.Ins))).length : Int), 0⟩ : D.Ins)] : List D.Ins)) (((xs42 ++ ([(⟨8, 3, 0, 0⟩ : D.Ins)] : List D.Ins))).length : Int)).Op, (rd ((((xs42 ++ ([(⟨8, 3, 0, 0⟩ : D.Ins)] : List D.Ins)) ++ ([(⟨10, 3, 0, 0⟩ : D.Ins)] : List D.Ins)) ++ ([(⟨3, 0, 0, 1⟩ : D.Ins), (⟨1, 2, 1, 0⟩ : D.Ins), (⟨4, 3, 3, 2⟩ : D.Ins)] : List D.Ins)) ++ ([(⟨11, 0, (((xs42 ++ ([(⟨8, 3, 0, 0⟩ : D.Ins)] : List D.Ins))).length : Int), 0⟩ : D.Ins)] : List D.Ins)) (((xs42 ++ ([(⟨8, 3, 0, 0⟩ : D.Ins)] : List D.Ins))).length : Int)).A, ((((((xs42 ++ ([(⟨8, 3, 0, 0⟩ : D.Ins)] : List D.Ins)) ++ ([(⟨10, 3, 0, 0⟩ : D.Ins)] : List D.Ins)) ++ ([(⟨3, 0, 0, 1⟩ : D.Ins), (⟨1, 2, 1, 0⟩ : D.Ins), (⟨4, 3, 3, 2⟩ : D.Ins)] : List D.Ins)) ++ ([(⟨11, 0, (((xs42 ++ ([(⟨8, 3, 0, 0⟩ : D.Ins)] : List D.Ins))).length : Int), 0⟩ : D.Ins)] : List D.Ins))).length : Int), (rd ((((xs42 ++ ([(⟨8, 3, 0, 0⟩ : D.Ins)] : List D.Ins)) ++ ([(⟨10, 3, 0, 0⟩ : D.Ins)] : List D.Ins)) ++ ([(⟨3, 0, 0, 1⟩ : D.Ins), (⟨1, 2, 1, 0⟩ : D.Ins), (⟨4, 3, 3, 2⟩ : D.Ins)] : List D.Ins)) ++ ([(⟨11, 0, (((xs42 ++ ([(⟨8, 3, 0, 0⟩ : D.Ins)] : List D.Ins))).length : Int), 0⟩ : D.Ins)] : List D.Ins)) (((xs42 ++ ([(⟨8, 3, 0, 0⟩ : D.Ins)] : List D.Ins))).length : Int)).C⟩ : D.Ins)), (wrap .i64 (i45 - 1)), r53.2.i, r53.2.h, A171, c172, (by first | rfl | (simp only [bC, wC, List.length_set])), hJ186, hB, (by first | exact O5 | (simp only [bC, wC, List.length_set]; exact O5)), Mw5, (by first | exact O1 | (simp only [bC, wC, List.length_set]; exact O1))⟩
    obtain ⟨hp191, H⟩ := H
    obtain ⟨r189, hr190, H⟩ := qad H
    refine (qaA.con hp191 hr190 O1 (R0_0.chgS hB D0_0) hc0_0 (fun hx_ => (fun g h_ hS_ => D0_0 hx_ g h_ (Or.inl hS_)))).mono ?_
    rintro _ w192 ⟨rfl, Q1, hq194, e193⟩
    simp only [bC, wC, hq194] at Q1
    have O5 := O5.chgS e193 (qcg (O5.qa6 O1 (by decide)))
    have hB := hB.chg e193 (fun g h_ => Or.inr (Or.inl h_))
    have O1 := Q1
    refine ⟨r189.1.Op, trivial, r189.1.A, trivial, r189.1.B, trivial, r189.1.C, trivial, rfl, ?_⟩
    refine qap el84 ([r189.1] : List D.Ins) (fun _ => by kernel_rfl) rfl (fun A195 w196 P14 e197 => ?_)
    have N14_1 := P14.qa8 O1.lt
    have N5_14 := Own.qep O5 P14 (Nat.le_refl _)
    have O1 := O1.ext e197
    have O5 := O5.ext e197
    have O14 := P14.mono hB.size
    have hB := hB.then e197
    obtain ⟨hl202, H⟩ := H
    refine qgZ qeh qeh.under O5 O14.row (Nat.zero_le _) rfl (by first | rfl | omega | (simp; done) | (simp; omega)) hl202 (fun A198 c199 w200 P5 e201 => ?_)
    have N5_1_ := Apart.app (O5.qa6 O1 (by decide)) e201 O1.lt
    have O1 := O1.app e201 (O5.qa6 O1 (by decide))
    have N14_5_ := qcy.app (N5_14).symm e201 O14
    have O14 := O14.app e201 (N5_14).symm
    have N5_1 := N5_1_
    have N14_5 := N14_5_
    have hBs_ := hB.size
    have hB := hB.app e201 (fun g h_ => (qh4 Mv5 h_ (fun h_ => (Or.inr h_))))
    have O5 := P5
    have Mw5 := Mov.trans Mv5 e201.blk hBs_
    obtain ⟨m203, hm204, hJ205⟩ := H
    exact ⟨m203, hm204, (xs42 ++ ([r189.1] : List D.Ins)), (wrap .i64 (i45 - 1)), r189.2.i, r189.2.h, A198, c199, rfl, hJ205, hB, O5, Mw5, O1⟩
   obtain rfl := hr.trans H.symm
   exact ⟨A43, c44, rfl, (O5.mono (Nat.zero_le _)), Mv5, O1, rfl, hB⟩
  obtain rfl := hr.trans H.symm
  exact ⟨A43, c44, rfl, (O5.mono (Nat.zero_le _)), Mv5, O1, rfl, hB⟩

theorem qaT.con {s0 : D.Cur} {g1_ c0_0 c1 : Nat} {A0_0 A1 : OA} {xs1 : List D.Ins} {x2 : Int} {r : (List D.Ins) × D.Cur} {w : World} (hp : M.qdS s0 xs1 x2) (hr : r = M.qaT s0 xs1 x2) (O1 : Blk w g1_ 129 #[(sv A0_0 s0.b.length c0_0), (iv s0.i), (iv s0.h)]) (R0_0 : Row el5 w A0_0 s0.b) (hc0_0 : s0.b.length ≤ c0_0) (O3 : Own el84 w 0 A1 c1 xs1) (D0_0 : s0.b ≠ [] → ∀ g, InB A0_0 g → ¬ (fun k_ => k_ = g1_ ∨ InB A1 k_) g) :
    Cl 141 #[(.pointer (some (bx g1_))), (sv A1 xs1.length c1), (iv x2)] w (fun v_ w_ => ∃ (A0_ : OA) (c0_ : Nat), v_ = (sv A0_ r.1.length c0_) ∧ Own el84 w_ 0 A0_ c0_ r.1 ∧ Mov w A1 A0_ ∧ Blk w_ g1_ 129 #[(sv A0_0 r.2.b.length c0_0), (iv r.2.i), (iv r.2.h)] ∧ r.2.b = s0.b ∧ Chg (fun k_ => k_ = g1_ ∨ InB A1 k_) w w_) := qaT.con_ _ hp hr O1 R0_0 hc0_0 O3 D0_0 rfl
def qbJ.vc (p0 : Addr) (w : World) (K : VK) : Prop :=
  newK w (.cells #[(iv 0), (iv 0), (iv 0), (iv 0)] 84) fun g21 w22 => Run Tryz.prog (Instr.buildSlice 24 3 #[(0, (iv 13)), (1, (iv 14)), (2, (iv 15))]) w22 fun v23 w24 => ∃ (A25 : OA) (n26 c27 : Nat), v23 = .slice A25 n26 c27 ∧ Cl 140 #[(.pointer (some p0)), (sv A25 n26 c27)] w24 fun v28 w29 => (∃ (n30 : Int), v28 = (iv n30) ∧ Cl 67 #[(.pointer (some p0)), (iv 4)] w29 fun v31 w32 => (∃ (n33 : Int), v31 = (iv n33) ∧ Cl 67 #[(.pointer (some p0)), (iv 4)] w32 fun v34 w35 => (∃ (n36 : Int), v34 = (iv n36) ∧ qa7 (bx g21) [(iv n30), (iv n33), (iv n36), (iv 0)] 0 w35 fun w37 => ldI w37 ((bx g21).add 0) fun n38 => ldI w37 ((bx g21).add 1) fun n39 => ldI w37 ((bx g21).add 2) fun n40 => ldI w37 ((bx g21).add 3) fun n41 => K (.agg #[(iv n38), (iv n39), (iv n40), (iv n41)]) w37)))

def qbJ.ann : Ann := (.seq .l (.seq .l .l))

theorem qbJ.con {s0 : D.Cur} {g1_ c0_0 : Nat} {A0_0 : OA} {r : D.Ins × D.Cur} {w : World} (hp : M.qfA s0) (hr : r = M.qbJ s0) (O1 : Blk w g1_ 129 #[(sv A0_0 s0.b.length c0_0), (iv s0.i), (iv s0.h)]) (R0_0 : Row el5 w A0_0 s0.b) (hc0_0 : s0.b.length ≤ c0_0) (D0_0 : s0.b ≠ [] → ∀ g, InB A0_0 g → ¬ (fun k_ => k_ = g1_) g) :
    Cl 142 #[(.pointer (some (bx g1_)))] w (fun v_ w_ => v_ = (.agg (iC r.1)) ∧ Blk w_ g1_ 129 #[(sv A0_0 r.2.b.length c0_0), (iv r.2.i), (iv r.2.h)] ∧ r.2.b = s0.b ∧ Chg (fun k_ => k_ = g1_) w w_) := by
 have H := wp.qbJ.math s0 hp
 have hB := Chg.refl (fun k_ => k_ = g1_) w
 refine begK mixed Tryz.f142 ann (vc (bx g1_)) ?_
 unfold vc
 unfold wp.qbJ at H
 refine qax (fun g3_ w21 L3 P3 e22 => ?_)
 have N1_3 := O1.ne L3
 have O1 := O1.ext e22
 have L3 := Nat.le_trans hB.size L3
 have hB := hB.then e22
 refine qap el3 ([13, 14, 15] : List Int) (fun _ => by kernel_rfl) rfl (fun A23 w24 P4 e25 => ?_)
 have N4_1 := P4.qa8 O1.lt
 have O1 := O1.ext e25
 have O4 := P4.mono hB.size
 have hB := hB.then e25
 obtain ⟨hp28, H⟩ := H
 obtain ⟨r26, hr27, H⟩ := qad H
 refine (cllA (qau.con hp28 hr27 O1 (R0_0.chgS hB D0_0) hc0_0 O4.row O4.le (fun hx_ => (fun g h_ hS_ => D0_0 hx_ g h_ hS_)) (fun _ => (qcg N4_1)))).mono ?_
 rintro _ w29 ⟨rfl, Q1, hq31, e30⟩
 simp only [bC, wC, hq31] at Q1
 have hB := hB.chg e30 (fun g h_ => Or.inr h_)
 have O1 := Q1
 refine ⟨r26.1, rfl, ?_⟩
 obtain ⟨hp34, H⟩ := H
 obtain ⟨r32, hr33, H⟩ := qad H
 refine (qa0.con hp34 hr33 O1 (R0_0.chgS hB D0_0) hc0_0 (fun hx_ => (fun g h_ hS_ => D0_0 hx_ g h_ hS_))).mono ?_
 rintro _ w35 ⟨rfl, Q1, hq37, e36⟩
 simp only [bC, wC, hq37] at Q1
 have hB := hB.chg e36 (fun g h_ => Or.inr h_)
 have O1 := Q1
 refine ⟨r32.1, rfl, ?_⟩
 obtain ⟨hp40, H⟩ := H
 obtain ⟨r38, hr39, H⟩ := qad H
 refine (qa0.con hp40 hr39 O1 (R0_0.chgS hB D0_0) hc0_0 (fun hx_ => (fun g h_ hS_ => D0_0 hx_ g h_ hS_))).mono ?_
 rintro _ w41 ⟨rfl, Q1, hq43, e42⟩
 simp only [bC, wC, hq43] at Q1
 have O3 := (((P3.ext e25).chgS e30 ((N1_3).symm)).chgS e36 ((N1_3).symm)).chgS e42 ((N1_3).symm)
 refine ⟨r38.1, rfl, ?_⟩
 refine qbI O3 (o := 0) (cs' := #[(iv r26.1), (iv r32.1), (iv r38.1), (iv 0)]) rfl rfl (Nat.le_of_ble_eq_true rfl) rfl (fun w44 O3 e45 => ?_)
 have O1 := Q1.chg e45 N1_3
 have hB := (hB.chg e42 (fun g h_ => Or.inr h_)).chgb e45 (Or.inl L3)
 refine ⟨_, (O3.a 0), _, (O3.a 1), _, (O3.a 2), _, (O3.a 3), ?_⟩
 cases hr.trans H.symm
 exact ⟨rfl, O1, rfl, hB⟩
def qa9.vc (p0 : Addr) (w : World) (K : VK) : Prop :=
  Run Tryz.prog (Instr.buildSlice 30 1 #[(0, (.agg #[(iv 8), (iv 0), (iv 0), (iv 0)]))]) w fun v21 w22 => ∃ (A23 : OA) (n24 c25 : Nat), v21 = .slice A23 n24 c25 ∧ Cl 67 #[(.pointer (some p0)), (iv 5)] w22 fun v26 w27 => (∃ (n28 : Int), v26 = (iv n28) ∧ qdA (σ := (OA × Nat × Nat) × Int × Unit) (fun z29 w30 next31 => qa1 (decide (z29.2.1 > 0)) (qa1 (decide ((wrap .i64 (((z29.1.2.1 : Nat) : Int) + 4)) ≤ 32)) (Cl 67 #[(.pointer (some p0)), (iv 7)] w30 fun v33 w34 => (∃ (n35 : Int), v33 = (iv n35) ∧ qa1 (n35 == 0) (Run Tryz.prog (Instr.buildSlice 30 1 #[(0, (.agg #[(iv 16), (iv 0), (iv 0), (iv 0)]))]) w34 fun v36 w37 => ∃ (A38 : OA) (n39 c40 : Nat), v36 = .slice A38 n39 c40 ∧ Run Tryz.prog (Builtin.append_ #[30, 30] 30 #[(sv z29.1.1 z29.1.2.1 z29.1.2.2), (sv A38 n39 c40)]) w37 fun v41 w42 => ∃ (A43 : OA) (n44 c45 : Nat), v41 = .slice A43 n44 c45 ∧ next31 ((A43, n44, c45), (wrap .i64 (z29.2.1 - 1)), ()) w42) (qa1 (n35 == 1) (Cl 67 #[(.pointer (some p0)), (iv 4)] w34 fun v46 w47 => (∃ (n48 : Int), v46 = (iv n48) ∧ Run Tryz.prog (Instr.buildSlice 30 2 #[(0, (.agg #[(iv 8), (iv 0), (iv 0), (iv 0)])), (1, (.agg #[(iv 14), (iv 0), (iv n48), (iv 0)]))]) w47 fun v49 w50 => ∃ (A51 : OA) (n52 c53 : Nat), v49 = .slice A51 n52 c53 ∧ Run Tryz.prog (Builtin.append_ #[30, 30] 30 #[(sv z29.1.1 z29.1.2.1 z29.1.2.2), (sv A51 n52 c53)]) w50 fun v54 w55 => ∃ (A56 : OA) (n57 c58 : Nat), v54 = .slice A56 n57 c58 ∧ next31 ((A56, n57, c58), (wrap .i64 (z29.2.1 - 1)), ()) w55)) (qa1 (n35 == 2) (Run Tryz.prog (Instr.buildSlice 24 3 #[(0, (iv 1)), (1, (iv 8)), (2, (iv 31))]) w34 fun v59 w60 => ∃ (A61 : OA) (n62 c63 : Nat), v59 = .slice A61 n62 c63 ∧ Cl 140 #[(.pointer (some p0)), (sv A61 n62 c63)] w60 fun v64 w65 => (∃ (n66 : Int), v64 = (iv n66) ∧ Run Tryz.prog (Instr.buildSlice 30 4 #[(0, (.agg #[(iv 1), (iv 1), (iv n66), (iv 0)])), (1, (.agg #[(iv 8), (iv 0), (iv 0), (iv 0)])), (2, (.agg #[(iv 3), (iv 0), (iv 0), (iv 1)])), (3, (.agg #[(iv 13), (iv 2), (iv 0), (iv 0)]))]) w65 fun v67 w68 => ∃ (A69 : OA) (n70 c71 : Nat), v67 = .slice A69 n70 c71 ∧ Run Tryz.prog (Builtin.append_ #[30, 30] 30 #[(sv z29.1.1 z29.1.2.1 z29.1.2.2), (sv A69 n70 c71)]) w68 fun v72 w73 => ∃ (A74 : OA) (n75 c76 : Nat), v72 = .slice A74 n75 c76 ∧ next31 ((A74, n75, c76), (wrap .i64 (z29.2.1 - 1)), ()) w73)) (qa1 (n35 == 3) (Cl 67 #[(.pointer (some p0)), (iv 8)] w34 fun v77 w78 => (∃ (n79 : Int), v77 = (iv n79) ∧ Cl 67 #[(.pointer (some p0)), (iv 4)] w78 fun v80 w81 => (∃ (n82 : Int), v80 = (iv n82) ∧ Run Tryz.prog (Instr.buildSlice 30 2 #[(0, (.agg #[(iv 1), (iv 1), (iv (wrap .i64 (24 + n79))), (iv 0)])), (1, (.agg #[(iv 15), (iv 1), (iv n82), (iv 0)]))]) w81 fun v83 w84 => ∃ (A85 : OA) (n86 c87 : Nat), v83 = .slice A85 n86 c87 ∧ Run Tryz.prog (Builtin.append_ #[30, 30] 30 #[(sv z29.1.1 z29.1.2.1 z29.1.2.2), (sv A85 n86 c87)]) w84 fun v88 w89 => ∃ (A90 : OA) (n91 c92 : Nat), v88 = .slice A90 n91 c92 ∧ next31 ((A90, n91, c92), (wrap .i64 (z29.2.1 - 1)), ()) w89))) (qa1 (n35 == 4) (qa1 (decide (((z29.1.2.1 : Nat) : Int) < 12)) (Cl 141 #[(.pointer (some p0)), (sv z29.1.1 z29.1.2.1 z29.1.2.2), (iv 1)] w34 fun v93 w94 => (∃ (A95 : OA) (n96 c97 : Nat), v93 = (sv A95 n96 c97) ∧ next31 ((A95, n96, c97), (wrap .i64 (z29.2.1 - 1)), ()) w94)) (next31 ((z29.1.1, z29.1.2.1, z29.1.2.2), (wrap .i64 (z29.2.1 - 1)), ()) w34)) (qa1 (n35 == 5) (Cl 142 #[(.pointer (some p0))] w34 fun v98 w99 => (∃ (n100 : Int), True ∧ ∃ (n101 : Int), True ∧ ∃ (n102 : Int), True ∧ ∃ (n103 : Int), True ∧ v98 = (.agg #[(iv n100), (iv n101), (iv n102), (iv n103)]) ∧ Run Tryz.prog (Instr.buildSlice 30 1 #[(0, (.agg #[(iv n100), (iv n101), (iv n102), (iv n103)]))]) w99 fun v104 w105 => ∃ (A106 : OA) (n107 c108 : Nat), v104 = .slice A106 n107 c108 ∧ Run Tryz.prog (Builtin.append_ #[30, 30] 30 #[(sv z29.1.1 z29.1.2.1 z29.1.2.2), (sv A106 n107 c108)]) w105 fun v109 w110 => ∃ (A111 : OA) (n112 c113 : Nat), v109 = .slice A111 n112 c113 ∧ next31 ((A111, n112, c113), (wrap .i64 (z29.2.1 - 1)), ()) w110)) (Cl 143 #[(.pointer (some p0))] w34 fun v114 w115 => (∃ (n116 : Int), True ∧ ∃ (n117 : Int), True ∧ ∃ (n118 : Int), True ∧ ∃ (n119 : Int), True ∧ v114 = (.agg #[(iv n116), (iv n117), (iv n118), (iv n119)]) ∧ Run Tryz.prog (Instr.buildSlice 30 1 #[(0, (.agg #[(iv n116), (iv n117), (iv n118), (iv n119)]))]) w115 fun v120 w121 => ∃ (A122 : OA) (n123 c124 : Nat), v120 = .slice A122 n123 c124 ∧ Run Tryz.prog (Builtin.append_ #[30, 30] 30 #[(sv z29.1.1 z29.1.2.1 z29.1.2.2), (sv A122 n123 c124)]) w121 fun v125 w126 => ∃ (A127 : OA) (n128 c129 : Nat), v125 = .slice A127 n128 c129 ∧ next31 ((A127, n128, c129), (wrap .i64 (z29.2.1 - 1)), ()) w126))))))))) (K (sv z29.1.1 z29.1.2.1 z29.1.2.2) w30)) (K (sv z29.1.1 z29.1.2.1 z29.1.2.2) w30)) ((A23, n24, c25), (wrap .i64 (1 + n28)), ()) w27)

def qa9.ann : Ann := (.seq .l (.seq .l (.seq (.seq .l (.one (.loop [(3, .sl), (4, .int .i64)] (.seq (.seq .l (.two .l .l)) (.seq (.one (.seq .l (.one (.seq .l (.two .l (.seq .l (.two .l (.seq .l (.two .l (.seq .l (.two .l (.seq .l (.two (.seq .l (.two .l .l)) (.seq .l (.two .l .l))))))))))))))) .l))))) (.seq .l .l))))

theorem qa9.con {s0 : D.Cur} {g1_ c0_0 : Nat} {A0_0 : OA} {r : (List D.Ins) × D.Cur} {w : World} (hp : M.qfg s0) (hr : r = M.qa9 s0) (O1 : Blk w g1_ 129 #[(sv A0_0 s0.b.length c0_0), (iv s0.i), (iv s0.h)]) (R0_0 : Row el5 w A0_0 s0.b) (hc0_0 : s0.b.length ≤ c0_0) (D0_0 : s0.b ≠ [] → ∀ g, InB A0_0 g → ¬ (fun k_ => k_ = g1_) g) :
    Cl 85 #[(.pointer (some (bx g1_)))] w (fun v_ w_ => ∃ (A0_ : OA) (c0_ : Nat), v_ = (sv A0_ r.1.length c0_) ∧ Own el84 w_ w.heap.size A0_ c0_ r.1 ∧ Blk w_ g1_ 129 #[(sv A0_0 r.2.b.length c0_0), (iv r.2.i), (iv r.2.h)] ∧ r.2.b = s0.b ∧ Chg (fun k_ => k_ = g1_) w w_) := by
 have H := wp.qa9.math s0 hp
 have hB := Chg.refl (fun k_ => k_ = g1_) w
 refine begK mixed Tryz.f85 ann (vc (bx g1_)) ?_
 unfold vc
 unfold wp.qa9 at H
 refine qap el84 ([(⟨8, 0, 0, 0⟩ : D.Ins)] : List D.Ins) (fun _ => by kernel_rfl) rfl (fun A21 w22 P3 e23 => ?_)
 have N3_1 := P3.qa8 O1.lt
 have O1 := O1.ext e23
 have O3 := P3.mono hB.size
 have hB := hB.then e23
 obtain ⟨hp26, H⟩ := H
 obtain ⟨r24, hr25, H⟩ := qad H
 refine (qa0.con hp26 hr25 O1 (R0_0.chgS hB D0_0) hc0_0 (fun hx_ => (fun g h_ hS_ => D0_0 hx_ g h_ hS_))).mono ?_
 rintro _ w27 ⟨rfl, Q1, hq29, e28⟩
 simp only [bC, wC, hq29] at Q1
 have O3 := O3.chgS e28 (qcg N3_1)
 have hB := hB.chg e28 (fun g h_ => Or.inr h_)
 have O1 := Q1
 refine ⟨r24.1, rfl, ?_⟩
 obtain ⟨J60, ⟨m200, hJ199⟩, hS61⟩ := H
 refine ⟨fun m_ z_ w_ => ∃ (xs53 : List D.Ins) (i56 i57 i58 : Int) (A54 : OA) (c55 : Nat), z_ = ((A54, xs53.length, c55), i56, ()) ∧ J60 m_ (xs53, i56, i57, i58, ()) ∧ Chg (fun k_ => k_ = g1_) w w_ ∧ Own el84 w_ w.heap.size A54 c55 xs53 ∧ Blk w_ g1_ 129 #[(sv A0_0 s0.b.length c0_0), (iv i57), (iv i58)], ⟨m200, ([(⟨8, 0, 0, 0⟩ : D.Ins)] : List D.Ins), (wrap .i64 (1 + r24.1)), r24.2.i, r24.2.h, A21, 1, rfl, hJ199, hB, O3, O1⟩, ?_⟩
 rintro m59 _ w63 ⟨xs53, i56, i57, i58, A54, c55, rfl, hJ201, hB, O6, O1⟩
 have H := hS61 m59 _ hJ201
 clear hS61 hJ201
 try dsimp only at H ⊢
 refine brc H (fun h H => ?_) fun h H => ?_
 ·refine brc H (fun h H => ?_) fun h H => ?_
  ·obtain ⟨hp66, H⟩ := H
   obtain ⟨r64, hr65, H⟩ := qad H
   refine (qa0.con hp66 hr65 O1 (R0_0.chgS hB D0_0) hc0_0 (fun hx_ => (fun g h_ hS_ => D0_0 hx_ g h_ hS_))).mono ?_
   rintro _ w67 ⟨rfl, Q1, hq69, e68⟩
   simp only [bC, wC, hq69] at Q1
   have O6 := O6.chgS e68 (qcg (O6.qa6 O1 (by decide)))
   have hB := hB.chg e68 (fun g h_ => Or.inr h_)
   have O1 := Q1
   refine ⟨r64.1, rfl, ?_⟩
   refine brc H (fun h H => ?_) fun h H => ?_
   ·refine qap el84 ([(⟨16, 0, 0, 0⟩ : D.Ins)] : List D.Ins) (fun _ => by kernel_rfl) rfl (fun A70 w71 P7 e72 => ?_)
    have O1 := O1.ext e72
    have O6 := O6.ext e72
    have O7 := P7.mono hB.size
    have hB := hB.then e72
    obtain ⟨hl77, H⟩ := H
    refine appO qeh O6 O7.row hB.size hl77 (fun A73 c74 w75 P6 e76 => ?_)
    have O1 := O1.app e76 (O6.qa6 O1 (by decide))
    have hB := hB.app e76 (fun g h_ => Or.inl (O6.low g h_))
    have O6 := P6
    obtain ⟨m78, hm79, hJ80⟩ := H
    exact ⟨m78, hm79, _, _, _, _, A73, c74, rfl, hJ80, hB, O6, O1⟩
   refine brc H (fun h H => ?_) fun h H => ?_
   ·obtain ⟨hp83, H⟩ := H
    obtain ⟨r81, hr82, H⟩ := qad H
    refine (qa0.con hp83 hr82 O1 (R0_0.chgS hB D0_0) hc0_0 (fun hx_ => (fun g h_ hS_ => D0_0 hx_ g h_ hS_))).mono ?_
    rintro _ w84 ⟨rfl, Q1, hq86, e85⟩
    simp only [bC, wC, hq86] at Q1
    have O6 := O6.chgS e85 (qcg (O6.qa6 O1 (by decide)))
    have hB := hB.chg e85 (fun g h_ => Or.inr h_)
    refine ⟨r81.1, rfl, ?_⟩
    refine qap el84 ([(⟨8, 0, 0, 0⟩ : D.Ins), (⟨14, 0, r81.1, 0⟩ : D.Ins)] : List D.Ins) (fun _ => by kernel_rfl) rfl (fun A87 w88 P8 e89 => ?_)
    have O1 := Q1.ext e89
    have O6 := O6.ext e89
    have O8 := P8.mono hB.size
    have hB := hB.then e89
    obtain ⟨hl94, H⟩ := H
    refine appO qeh O6 O8.row hB.size hl94 (fun A90 c91 w92 P6 e93 => ?_)
    have O1 := O1.app e93 (O6.qa6 O1 (by decide))
    have hB := hB.app e93 (fun g h_ => Or.inl (O6.low g h_))
    have O6 := P6
    obtain ⟨m95, hm96, hJ97⟩ := H
    exact ⟨m95, hm96, _, _, _, _, A90, c91, rfl, hJ97, hB, O6, O1⟩
   refine brc H (fun h H => ?_) fun h H => ?_
   ·refine qap el3 ([1, 8, 31] : List Int) (fun _ => by kernel_rfl) rfl (fun A98 w99 P9 e100 => ?_)
    have N9_1 := P9.qa8 O1.lt
    have O1 := O1.ext e100
    have O6 := O6.ext e100
    have O9 := P9.mono hB.size
    have hB := hB.then e100
    obtain ⟨hp103, H⟩ := H
    obtain ⟨r101, hr102, H⟩ := qad H
    refine (cllA (qau.con hp103 hr102 O1 (R0_0.chgS hB D0_0) hc0_0 O9.row O9.le (fun hx_ => (fun g h_ hS_ => D0_0 hx_ g h_ hS_)) (fun _ => (qcg N9_1)))).mono ?_
    rintro _ w104 ⟨rfl, Q1, hq106, e105⟩
    simp only [bC, wC, hq106] at Q1
    have O6 := O6.chgS e105 (qcg (O6.qa6 O1 (by decide)))
    have hB := hB.chg e105 (fun g h_ => Or.inr h_)
    refine ⟨r101.1, rfl, ?_⟩
    refine qap el84 ([(⟨1, 1, r101.1, 0⟩ : D.Ins), (⟨8, 0, 0, 0⟩ : D.Ins), (⟨3, 0, 0, 1⟩ : D.Ins), (⟨13, 2, 0, 0⟩ : D.Ins)] : List D.Ins) (fun _ => by kernel_rfl) rfl (fun A107 w108 P10 e109 => ?_)
    have O1 := Q1.ext e109
    have O6 := O6.ext e109
    have O10 := P10.mono hB.size
    have hB := hB.then e109
    obtain ⟨hl114, H⟩ := H
    refine appO qeh O6 O10.row hB.size hl114 (fun A110 c111 w112 P6 e113 => ?_)
    have O1 := O1.app e113 (O6.qa6 O1 (by decide))
    have hB := hB.app e113 (fun g h_ => Or.inl (O6.low g h_))
    have O6 := P6
    obtain ⟨m115, hm116, hJ117⟩ := H
    exact ⟨m115, hm116, _, _, _, _, A110, c111, rfl, hJ117, hB, O6, O1⟩
   refine brc H (fun h H => ?_) fun h H => ?_
   ·obtain ⟨hp120, H⟩ := H
    obtain ⟨r118, hr119, H⟩ := qad H
    refine (qa0.con hp120 hr119 O1 (R0_0.chgS hB D0_0) hc0_0 (fun hx_ => (fun g h_ hS_ => D0_0 hx_ g h_ hS_))).mono ?_
    rintro _ w121 ⟨rfl, Q1, hq123, e122⟩
    simp only [bC, wC, hq123] at Q1
    have O6 := O6.chgS e122 (qcg (O6.qa6 O1 (by decide)))
    have hB := hB.chg e122 (fun g h_ => Or.inr h_)
    have O1 := Q1
    refine ⟨r118.1, rfl, ?_⟩
    obtain ⟨hp126, H⟩ := H
    obtain ⟨r124, hr125, H⟩ := qad H
    refine (qa0.con hp126 hr125 O1 (R0_0.chgS hB D0_0) hc0_0 (fun hx_ => (fun g h_ hS_ => D0_0 hx_ g h_ hS_))).mono ?_
    rintro _ w127 ⟨rfl, Q1, hq129, e128⟩
    simp only [bC, wC, hq129] at Q1
    have O6 := O6.chgS e128 (qcg (O6.qa6 O1 (by decide)))
    have hB := hB.chg e128 (fun g h_ => Or.inr h_)
    refine ⟨r124.1, rfl, ?_⟩
    refine qap el84 ([(⟨1, 1, (wrap .i64 (24 + r118.1)), 0⟩ : D.Ins), (⟨15, 1, r124.1, 0⟩ : D.Ins)] : List D.Ins) (fun _ => by kernel_rfl) rfl (fun A130 w131 P11 e132 => ?_)
    have O1 := Q1.ext e132
    have O6 := O6.ext e132
    have O11 := P11.mono hB.size
    have hB := hB.then e132
    obtain ⟨hl137, H⟩ := H
    refine appO qeh O6 O11.row hB.size hl137 (fun A133 c134 w135 P6 e136 => ?_)
    have O1 := O1.app e136 (O6.qa6 O1 (by decide))
    have hB := hB.app e136 (fun g h_ => Or.inl (O6.low g h_))
    have O6 := P6
    obtain ⟨m138, hm139, hJ140⟩ := H
    exact ⟨m138, hm139, _, _, _, _, A133, c134, rfl, hJ140, hB, O6, O1⟩
   refine brc H (fun h H => ?_) fun h H => ?_
   ·refine brc H (fun h H => ?_) fun h H => ?_
    ·obtain ⟨hp143, H⟩ := H
     obtain ⟨r141, hr142, H⟩ := qad H
     refine (qaT.con hp143 hr142 O1 (R0_0.chgS hB D0_0) hc0_0 (O6.mono (Nat.zero_le _)) (fun hx_ => (fun g h_ => (fun hS_ => hS_.elim ((fun g h_ hS_ => D0_0 hx_ g h_ hS_) g h_) ((fun g h_ hS_ => Nat.not_le.2 (R0_0.old hx_ g h_) (O6.low g hS_)) g h_))))).mono ?_
     rintro _ w144 ⟨A146, c147, rfl, P12, Mv12, Q1, hq148, e145⟩
     simp only [bC, wC, hq148] at Q1
     have Lw12 := Mv12.low O6.low hB.size
     have hB := hB.chg e145 (fun g => (fun hS_ => hS_.elim ((fun g h_ => Or.inr h_) g) ((fun g h_ => Or.inl (O6.low g h_)) g)))
     have O1 := Q1
     have O12 := P12.lift Lw12
     refine ⟨A146, r141.1.length, c147, rfl, ?_⟩
     obtain ⟨m149, hm150, hJ151⟩ := H
     exact ⟨m149, hm150, _, _, _, _, A146, c147, rfl, hJ151, hB, O12, O1⟩
    obtain ⟨m152, hm153, hJ154⟩ := H
    exact ⟨m152, hm153, xs53, _, _, _, A54, c55, rfl, hJ154, hB, O6, O1⟩
   refine brc H (fun h H => ?_) fun h H => ?_
   ·obtain ⟨hp158, H⟩ := H
    obtain ⟨r156, hr157, H⟩ := qad H
    refine (qbJ.con hp158 hr157 O1 (R0_0.chgS hB D0_0) hc0_0 (fun hx_ => (fun g h_ hS_ => D0_0 hx_ g h_ hS_))).mono ?_
    rintro _ w159 ⟨rfl, Q1, hq161, e160⟩
    simp only [bC, wC, hq161] at Q1
    have O6 := O6.chgS e160 (qcg (O6.qa6 O1 (by decide)))
    have hB := hB.chg e160 (fun g h_ => Or.inr h_)
    refine ⟨r156.1.Op, trivial, r156.1.A, trivial, r156.1.B, trivial, r156.1.C, trivial, rfl, ?_⟩
    refine qap el84 ([r156.1] : List D.Ins) (fun _ => by kernel_rfl) rfl (fun A162 w163 P13 e164 => ?_)
    have O1 := Q1.ext e164
    have O6 := O6.ext e164
    have O13 := P13.mono hB.size
    have hB := hB.then e164
    obtain ⟨hl169, H⟩ := H
    refine appO qeh O6 O13.row hB.size hl169 (fun A165 c166 w167 P6 e168 => ?_)
    have O1 := O1.app e168 (O6.qa6 O1 (by decide))
    have hB := hB.app e168 (fun g h_ => Or.inl (O6.low g h_))
    have O6 := P6
    obtain ⟨m170, hm171, hJ172⟩ := H
    exact ⟨m170, hm171, _, _, _, _, A165, c166, rfl, hJ172, hB, O6, O1⟩
   obtain ⟨hp175, H⟩ := H
   obtain ⟨r173, hr174, H⟩ := qad H
   refine (qaA.con hp175 hr174 O1 (R0_0.chgS hB D0_0) hc0_0 (fun hx_ => (fun g h_ hS_ => D0_0 hx_ g h_ hS_))).mono ?_
   rintro _ w176 ⟨rfl, Q1, hq178, e177⟩
   simp only [bC, wC, hq178] at Q1
   have O6 := O6.chgS e177 (qcg (O6.qa6 O1 (by decide)))
   have hB := hB.chg e177 (fun g h_ => Or.inr h_)
   refine ⟨r173.1.Op, trivial, r173.1.A, trivial, r173.1.B, trivial, r173.1.C, trivial, rfl, ?_⟩
   refine qap el84 ([r173.1] : List D.Ins) (fun _ => by kernel_rfl) rfl (fun A179 w180 P14 e181 => ?_)
   have O1 := Q1.ext e181
   have O6 := O6.ext e181
   have O14 := P14.mono hB.size
   have hB := hB.then e181
   obtain ⟨hl186, H⟩ := H
   refine appO qeh O6 O14.row hB.size hl186 (fun A182 c183 w184 P6 e185 => ?_)
   have O1 := O1.app e185 (O6.qa6 O1 (by decide))
   have hB := hB.app e185 (fun g h_ => Or.inl (O6.low g h_))
   have O6 := P6
   obtain ⟨m187, hm188, hJ189⟩ := H
   exact ⟨m187, hm188, _, _, _, _, A182, c183, rfl, hJ189, hB, O6, O1⟩
  cases hr.trans H.symm
  exact ⟨A54, c55, rfl, O6, O1, rfl, hB⟩
 cases hr.trans H.symm
 exact ⟨A54, c55, rfl, O6, O1, rfl, hB⟩
def qbV.vc (A0_0 : OA) (n0_0 c0_0 : Nat) (A0_1 : OA) (n0_1 c0_1 : Nat) (A0_2 : OA) (n0_2 c0_2 : Nat) (x0_3 x0_4 x1 : Int) (w : World) (K : VK) : Prop :=
  newK w (.cells (vB A0_0 n0_0 c0_0 A0_1 n0_1 c0_1 A0_2 n0_2 c0_2 x0_3 x0_4) 33) fun g21 w22 => newK w22 (.cells zC 33) fun g23 w24 => ldB w24 (bx g21) fun A25 n26 c27 A28 n29 c30 A31 n32 c33 n34 n35 => Cl 98 #[(.agg (vB A25 n26 c27 A28 n29 c30 A31 n32 c33 n34 n35)), (iv x1)] w24 fun v36 w37 => (∃ (n38 : Int), True ∧ ∃ (n39 : Int), True ∧ ∃ (n40 : Int), True ∧ ∃ (n41 : Int), True ∧ v36 = (.agg #[(iv n38), (iv n39), (iv n40), (iv n41)]) ∧ newK w37 (.cells #[(iv 0), (iv 0), (iv 0), (iv 0)] 84) fun g42 w43 => qa7 (bx g42) [(iv n38), (iv n39), (iv n40), (iv n41)] 0 w43 fun w44 => ldS w44 (((bx g21).add 1).add 0) fun A45 n46 c47 => (idx x1 n46 A45 fun a48 => ldI w44 ((a48.add ((x1.toNat) * 3)).add 0) fun n49 => ldS w44 ((a48.add ((x1.toNat) * 3)).add 1) fun A50 n51 c52 => ldS w44 ((a48.add ((x1.toNat) * 3)).add 2) fun A53 n54 c55 => Cl 100 #[(.agg #[(iv n49), (sv A50 n51 c52), (sv A53 n54 c55)])] w44 fun v56 w57 => (∃ (n58 : Int), v56 = (iv n58) ∧ ldS w57 (((bx g21).add 1).add 0) fun A59 n60 c61 => (idx x1 n60 A59 fun a62 => ldS w57 (((a62.add ((x1.toNat) * 3)).add 2).add 0) fun A63 n64 c65 => qdA (σ := Int × Unit) (fun z66 w67 next68 => qa1 (decide (z66.1 < 8)) (Cl 101 #[(iv n58), (iv z66.1)] w67 fun v69 w70 => (∃ (b71 : Bool), v69 = (.bool b71) ∧ qa1 (!b71) (next68 ((wrap .i64 (z66.1 + 1)), ()) w70) (ldI w70 (((bx g42).add 1).add 0) fun n72 => (idx (wrap .i64 ((wrap .i64 (z66.1 * 4)) + n72)) n64 A63 fun a73 => ldI w70 ((a73.add (((wrap .i64 ((wrap .i64 (z66.1 * 4)) + n72)).toNat) * 1)).add 0) fun n74 => ldI w70 (((bx g42).add 2).add 0) fun n75 => (idx (wrap .i64 ((wrap .i64 (z66.1 * 4)) + n75)) n64 A63 fun a76 => ldI w70 ((a76.add (((wrap .i64 ((wrap .i64 (z66.1 * 4)) + n75)).toNat) * 1)).add 0) fun n77 => ldI w70 (((bx g42).add 0).add 0) fun n78 => qa1 (n78 == 13) ((∃ M79 : Nat → Prop, ldIM M79 w70 ((bx g42).add 1) 0 fun n80 => ldSM M79 w70 ((bx g21).add 2) 0 fun A81 n82 c83 => ((32 : Int) ≠ 0 ∧ (idx (Int.tmod n77 32) n82 A81 fun a84 => ldIM M79 w70 (a84.add (((Int.tmod n77 32).toNat) * 1)) 0 fun n85 => (idx (wrap .i64 ((wrap .i64 (z66.1 * 4)) + n80)) n64 A63 fun a86 => qa7 (a86.add (((wrap .i64 ((wrap .i64 (z66.1 * 4)) + n80)).toNat) * 1)) [(iv n85)] 0 w70.drew fun w87 => next68 ((wrap .i64 (z66.1 + 1)), ()) w87))))) (qa1 (n78 == 14) (ldS w70 (((bx g21).add 2).add 0) fun A88 n89 c90 => ((32 : Int) ≠ 0 ∧ (idx (Int.tmod n74 32) n89 A88 fun a91 => qa7 (a91.add (((Int.tmod n74 32).toNat) * 1)) [(iv n77)] 0 w70 fun w92 => next68 ((wrap .i64 (z66.1 + 1)), ()) w92))) (qa1 (n78 == 15) ((∃ M93 : Nat → Prop, ldSM M93 w70 ((bx g21).add 2) 0 fun A94 n95 c96 => ((32 : Int) ≠ 0 ∧ ldSM M93 w70 ((bx g21).add 2) 0 fun A97 n98 c99 => ((32 : Int) ≠ 0 ∧ (idx (Int.tmod n74 32) n98 A97 fun a100 => ldIM M93 w70 (a100.add (((Int.tmod n74 32).toNat) * 1)) 0 fun n101 => Cl 224 #[(iv n101), (iv n77)] w70.drew fun v102 w103 => (∃ (n104 : Int), v102 = (iv n104) ∧ qac M93 w70 w103 ∧ (idx (Int.tmod n74 32) n95 A94 fun a105 => qa7 (a105.add (((Int.tmod n74 32).toNat) * 1)) [(iv n104)] 0 w103 fun w106 => next68 ((wrap .i64 (z66.1 + 1)), ()) w106))))))) (next68 ((wrap .i64 (z66.1 + 1)), ()) w70)))))))) (ldB w67 (bx g21) fun A107 n108 c109 A110 n111 c112 A113 n114 c115 n116 n117 => qa7 (bx g23) [(sv A107 n108 c109), (sv A110 n111 c112), (sv A113 n114 c115), (iv n116), (iv n117)] 0 w67 fun w118 => ldB w118 (bx g23) fun A119 n120 c121 A122 n123 c124 A125 n126 c127 n128 n129 => K (.agg (vB A119 n120 c121 A122 n123 c124 A125 n126 c127 n128 n129)) w118)) (0, ()) w57))))

def qbV.ann : Ann := (.seq .l (.seq .l (.seq .l (.seq .l (.seq (.seq .l (.one (.loop [(8, .int .i64)] (.seq (.seq .l (.two .l .l)) (.seq (.one (.seq (.seq .l (.two .l .l)) (.seq .l (.seq .l (.seq .l (.one (.seq .l (.two .l (.seq .l (.two .l (.seq .l (.two .l .l)))))))))))) .l))))) (.seq .l .l))))))

theorem qbV.con {s0 : D.Block} {A0_0 A0_1 A0_2 : OA} {c0_0 c0_1 c0_2 : Nat} {F0_1 : Nat → Prop} {x1 : Int} {r : D.Block × (List D.Warp) × (List Int)} {w : World} (hp : M.qfI s0 x1) (hr : r = M.qbV s0 x1) (R0_0 : Row el84 w A0_0 s0.Code) (hc0_0 : s0.Code.length ≤ c0_0) (O2 : OwnW 52 el91 el3 w 0 F0_1 A0_1 c0_1 s0.Warps) (O3 : Own el3 w 0 A0_2 c0_2 s0.Memory) (N2_3 : Dis (InW A0_1 F0_1) (InB A0_2)) (D0_0 : s0.Code ≠ [] → ∀ g, InB A0_0 g → ¬ (fun k_ => InW A0_1 F0_1 k_ ∨ InB A0_2 k_) g) :
    Cl 201 #[(.agg (bC A0_0 c0_0 A0_1 c0_1 A0_2 c0_2 s0)), (iv x1)] w (fun v_ w_ => v_ = (.agg #[(sv A0_0 s0.Code.length c0_0), (sv A0_1 s0.Warps.length c0_1), (sv A0_2 s0.Memory.length c0_2), (iv r.1.Waiting), (iv r.1.Phase)]) ∧ OwnW 52 el91 el3 w_ 0 F0_1 A0_1 c0_1 r.2.1 ∧ r.2.1.length = s0.Warps.length ∧ Own el3 w_ 0 A0_2 c0_2 r.2.2 ∧ r.2.2.length = s0.Memory.length ∧ Chg (fun k_ => InW A0_1 F0_1 k_ ∨ InB A0_2 k_) w w_) := by
 have H := wp.qbV.math s0 x1 hp
 refine begK mixed Tryz.f201 ann (vc A0_0 s0.Code.length c0_0 A0_1 s0.Warps.length c0_1 A0_2 s0.Memory.length c0_2 s0.Waiting s0.Phase x1) ?_
 unfold vc
 unfold wp.qbV at H
 have LM2 := MovW.refl w (InW A0_1 F0_1)
 refine qax (fun g4_ w21 L4 O4 e22 => ?_)
 have N3_4 := O3.qag L4
 have O3 := O3.ext e22
 have hB := (Chg.refl (fun k_ => InW A0_1 F0_1 k_ ∨ InB A0_2 k_) w).then e22
 refine qax (fun g5_ w23 L5 P5 e24 => ?_)
 have N3_5 := O3.qag L5
 have O2 := (O2.ext e22).ext e24
 have O3 := O3.ext e24
 have O4 := O4.ext e24
 have L5 := Nat.le_trans hB.size L5
 have hB := hB.then e24
 refine ⟨_, _, _, (O4.a 0), _, _, _, (O4.a 1), _, _, _, (O4.a 2), _, (O4.a 3), _, (O4.a 4), ?_⟩
 obtain ⟨hp27, H⟩ := H
 obtain ⟨r25, hr26, H⟩ := qad H
 refine (qch.con hp27 hr26 (R0_0.chgS hB D0_0) hc0_0 O2.row O2.le O3.row O3.le).mono ?_
 rintro _ w28 ⟨rfl, e29⟩
 have O2 := O2.ext e29
 have O3 := O3.ext e29
 have O4 := O4.ext e29
 have O5 := P5.ext e29
 have hB := hB.then e29
 refine ⟨r25.Op, trivial, r25.A, trivial, r25.B, trivial, r25.C, trivial, rfl, ?_⟩
 refine qax (fun g6_ w30 L6 P6 e31 => ?_)
 have N2_6 := O2.qcv L6
 have N3_6 := O3.qag L6
 have N4_6 := O4.ne L6
 have N5_6 := O5.ne L6
 have O3 := O3.ext e31
 have O4 := O4.ext e31
 have O6 := P6
 have L6 := Nat.le_trans hB.size L6
 refine qbI O6 (o := 0) (cs' := (iC r25)) rfl rfl (Nat.le_of_ble_eq_true rfl) rfl (fun w32 O6 e33 => ?_)
 have O2 := (O2.ext e31).chg e33 N2_6
 have O3_ := O3.chg e33 N3_6
 have O4_ := O4.chg e33 N4_6
 have O4 := O4_
 refine ⟨_, _, _, (O4.a 1), ?_⟩
 obtain ⟨⟨h0_34, h1_35⟩, H⟩ := H
 obtain ⟨g7_, o7_, z7_, A8_, c8_, A9_, c9_, R7_, G10_, hA10, ha10, ho10, O7, O8, O9, O10, hF10, N10_8, N10_9, N10_7, L7⟩ := OwnW.focus O2 h0_34 h1_35 (by decide) (by decide) (by decide)
 have LM9 := LM2.sub (qjV hF10)
 have N10_3 := qdW N2_3 (qgb hF10)
 have N9_3 := qiJ (qdW N2_3 (qjV hF10))
 refine ⟨h0_34, h1_35, (⟨g7_, z7_, none⟩ : Addr), hA10, ?_⟩
 try dsimp only
 try rw [ha10]
 refine ⟨_, (O7.a 0), _, _, _, (O7.a 1), _, _, _, (O7.a 2), ?_⟩
 obtain ⟨hp38, H⟩ := H
 obtain ⟨r36, hr37, H⟩ := qad H
 refine (cllA (qbE.con hp38 hr37 O8.row O8.le O9.row O9.le)).mono ?_
 rintro _ w39 ⟨rfl, e40⟩
 have O3 := O3_.ext e40
 have O4 := O4.ext e40
 have O5 := ((O5.ext e31).chg e33 N5_6).ext e40
 have O6 := O6.ext e40
 have O7 := O7.ext e40
 have O8 := O8.ext e40
 have O9 := O9.ext e40
 have O10 := O10.ext e40
 have hB := ((hB.then e31).chgb e33 (Or.inl L6)).then e40
 refine ⟨r36, rfl, _, _, _, (O4.a 1), ?_⟩
 obtain ⟨⟨h0_41, h1_42⟩, H⟩ := H
 refine ⟨h0_41, (by first | exact h1_42 | omega | (simp at h1_42 ⊢; omega)), (⟨g7_, z7_, none⟩ : Addr), hA10, ?_⟩
 try dsimp only
 try rw [ha10]
 refine ⟨_, _, _, (O7.a 2), ?_⟩
 obtain ⟨J141, ⟨m246, hJ245⟩, hS142⟩ := H
 refine ⟨fun m_ z_ w_ => ∃ (i135 : Int) (xs136 xs138 : List Int), z_ = (i135, ()) ∧ J141 m_ (i135, xs136, xs138, ()) ∧ Chg (fun k_ => InW A0_1 F0_1 k_ ∨ InB A0_2 k_) w w_ ∧ Own el3 w_ 0 A0_2 c0_2 xs136 ∧ s0.Memory.length = xs136.length ∧ Own el3 w_ 0 A9_ c9_ xs138 ∧ (rd s0.Warps x1).Regs.length = xs138.length ∧ MovW w (InW A0_1 F0_1) (InB A9_) ∧ Blk w_ g4_ 33 (bC A0_0 c0_0 A0_1 c0_1 A0_2 c0_2 s0) ∧ Blk w_ g5_ 33 zC ∧ Blk w_ g6_ 84 (iC r25) ∧ Plc w_ g7_ o7_ 52 R7_ #[(iv ((rd s0.Warps x1).Number)), (sv A8_ ((rd s0.Warps x1).Frames.length) c8_), (sv A9_ ((rd s0.Warps x1).Regs.length) c9_)] ∧ Own el91 w_ 0 A8_ c8_ ((rd s0.Warps x1).Frames) ∧ qeP 52 el91 el3 w_ 0 G10_ A0_1 c0_1 s0.Warps ((x1.toNat)) R7_, ⟨m246, 0, s0.Memory, (rd s0.Warps x1).Regs, rfl, hJ245, hB, O3, (by first | rfl | assumption | omega | (simp; done) | (simp; omega) | (simp; assumption)), O9, (by first | rfl | assumption | omega | (simp; done) | (simp; omega) | (simp; assumption)), LM9, O4, O5, O6, (by first | exact O7 | (simp only [bC, wC, List.length_set]; exact O7)), O8, O10⟩, ?_⟩
 rintro m140 _ w144 ⟨i135, xs136, xs138, rfl, hJ247, hB, O3, hn137, O9, hn139, LM9, O4, O5, O6, O7, O8, O10⟩
 have H := hS142 m140 _ hJ247
 clear hS142 hJ247
 try dsimp only at H ⊢
 refine brc H (fun h H => ?_) fun h H => ?_
 ·obtain ⟨r145, hr146, H⟩ := qad H
  refine (qbG.con hr146 ).mono ?_
  rintro _ w148 ⟨rfl, e149⟩
  have O3 := O3.ext e149
  have O4 := O4.ext e149
  have O5 := O5.ext e149
  have O6 := O6.ext e149
  have O7 := O7.ext e149
  have O8 := O8.ext e149
  have O9 := O9.ext e149
  have O10 := O10.ext e149
  have hB := hB.then e149
  refine ⟨r145, rfl, ?_⟩
  refine brc H (fun h H => ?_) fun h H => ?_
  ·obtain ⟨m150, hm151, hJ152⟩ := H
   exact ⟨m150, hm151, _, _, _, rfl, hJ152, hB, O3, (by first | rfl | assumption | omega | (simp; done) | (simp; omega) | (simp; assumption)), O9, (by first | rfl | assumption | omega | (simp; done) | (simp; omega) | (simp; assumption)), LM9, (by first | exact O4 | (simp only [bC, wC, List.length_set, ← hn137]; exact O4)), O5, O6, (by first | exact O7 | (simp only [bC, wC, List.length_set, ← hn139]; exact O7)), O8, O10⟩
  refine ⟨_, (O6.a 1), ?_⟩
  obtain ⟨⟨h0_156, h1_157⟩, H⟩ := H
  obtain ⟨a154, ha155, hat153⟩ := Row.at O9.row h0_156 h1_157
  refine ⟨h0_156, (by first | exact h1_157 | omega | (simp at h1_157 ⊢; omega)), a154, ha155, _, (hat153 0 _ rfl), _, (O6.a 2), ?_⟩
  obtain ⟨⟨h0_161, h1_162⟩, H⟩ := H
  obtain ⟨a159, ha160, hat158⟩ := Row.at O9.row h0_161 h1_162
  refine ⟨h0_161, (by first | exact h1_162 | omega | (simp at h1_162 ⊢; omega)), a159, ha160, _, (hat158 0 _ rfl), _, (O6.a 0), ?_⟩
  refine brc H (fun h H => ?_) fun h H => ?_
  ·refine ⟨(fun _ => False), _, noM (O6.a 1), _, _, _, noM (O4.a 2), by decide, ?_⟩
   obtain ⟨⟨h0_168, h1_169⟩, H⟩ := H
   obtain ⟨a166, ha167, hat165⟩ := Row.at O3.row h0_168 h1_169
   refine ⟨h0_168, (by first | exact h1_169 | omega | (simp at h1_169 ⊢; omega)), a166, ha167, _, ⟨(fun h_ => h_), (hat165 0 _ rfl)⟩, ?_⟩
   obtain ⟨⟨h0_173, h1_174⟩, H⟩ := H
   obtain ⟨a171, ha172, hat170⟩ := Row.at O9.row h0_173 h1_174
   refine ⟨h0_173, (by first | exact h1_174 | omega | (simp at h1_174 ⊢; omega)), a171, ha172, ?_⟩
   have O4 := O4.ext (Ext.drew _)
   have O5 := O5.ext (Ext.drew _)
   have O6 := O6.ext (Ext.drew _)
   have O7 := O7.ext (Ext.drew _)
   have O8 := O8.ext (Ext.drew _)
   have O9 := O9.ext (Ext.drew _)
   refine Own.stA O9 ha172 h0_173 h1_174 0 (rd xs136 (Int.tmod (rd xs138 (wrap .i64 ((wrap .i64 (i135 * 4)) + r25.B))) 32)) (fun w175 P9 e176 hb177 => ?_)
   have O3 := (O3.ext (Ext.drew _)).chg e176 (((N9_3).symm).left ha172)
   have O4 := O4.chg e176 (fun h_ => ((O9.qa6 O4 (by decide))) _ ha172 h_.symm)
   have O5 := O5.chg e176 (fun h_ => ((O9.qa6 O5 (by decide))) _ ha172 h_.symm)
   have O6 := O6.chg e176 (fun h_ => ((O9.qa6 O6 (by decide))) _ ha172 h_.symm)
   have O7 := O7.chg e176 (fun h_ => ((O9.qa6 O7.b (by decide))) _ ha172 h_.symm)
   have O8 := O8.chg e176 (((Own.qaq O8 O9 (by decide))).left ha172)
   have O10 := (O10.ext (Ext.drew _)).chg e176 (fun h_ => N10_9 _ h_ ⟨_, ha172, rfl⟩)
   have hB := (hB.then (Ext.drew _)).chgb e176 ((LM9 _ ⟨_, ha172, rfl⟩).elim (fun h4_ => Or.inr (Or.inl h4_)) Or.inl)
   have O9 := P9
   obtain ⟨m178, hm179, hJ180⟩ := H
   exact ⟨m178, hm179, _, _, _, rfl, hJ180, hB, O3, (by first | rfl | assumption | omega | (simp; done) | (simp; omega) | (simp; assumption)), O9, (by first | rfl | assumption | omega | (simp; done) | (simp; omega) | (simp; assumption)), LM9, (by first | exact O4 | (simp only [bC, wC, List.length_set, ← hn137]; exact O4)), O5, O6, (by first | exact O7 | (simp only [bC, wC, List.length_set, ← hn139]; exact O7)), O8, O10⟩
  refine brc H (fun h H => ?_) fun h H => ?_
  ·refine ⟨_, _, _, (O4.a 2), by decide, ?_⟩
   obtain ⟨⟨h0_185, h1_186⟩, H⟩ := H
   obtain ⟨a183, ha184, hat182⟩ := Row.at O3.row h0_185 h1_186
   refine ⟨h0_185, (by first | exact h1_186 | omega | (simp at h1_186 ⊢; omega)), a183, ha184, ?_⟩
   refine Own.stA O3 ha184 h0_185 h1_186 0 (rd xs138 (wrap .i64 ((wrap .i64 (i135 * 4)) + r25.B))) (fun w187 P3 e188 hb189 => ?_)
   have O4 := O4.chg e188 (fun h_ => (N3_4) _ ha184 h_.symm)
   have O5 := O5.chg e188 (fun h_ => (N3_5) _ ha184 h_.symm)
   have O6 := O6.chg e188 (fun h_ => (N3_6) _ ha184 h_.symm)
   have O7 := O7.chg e188 (fun h_ => ((O3.qa6 O7.b (by decide))) _ ha184 h_.symm)
   have O8 := O8.chg e188 (((Own.qaq O8 O3 (by decide))).left ha184)
   have O9 := O9.chg e188 ((N9_3).left ha184)
   have O10 := O10.chg e188 (fun h_ => N10_3 _ h_ ⟨_, ha184, rfl⟩)
   have hB := hB.chgb e188 (Or.inr (Or.inr ⟨_, ha184, rfl⟩))
   have O3 := P3
   obtain ⟨m190, hm191, hJ192⟩ := H
   exact ⟨m190, hm191, _, _, _, rfl, hJ192, hB, O3, (by first | rfl | assumption | omega | (simp; done) | (simp; omega) | (simp; assumption)), O9, (by first | rfl | assumption | omega | (simp; done) | (simp; omega) | (simp; assumption)), LM9, (by first | exact O4 | (simp only [bC, wC, List.length_set, ← hn137]; exact O4)), O5, O6, (by first | exact O7 | (simp only [bC, wC, List.length_set, ← hn139]; exact O7)), O8, O10⟩
  refine brc H (fun h H => ?_) fun h H => ?_
  ·refine ⟨(fun _ => False), ?_⟩
   have hBz := hB
   have Z3 := O3
   refine ⟨_, _, _, noM (O4.a 2), by decide, _, _, _, noM (O4.a 2), by decide, ?_⟩
   obtain ⟨⟨h0_216, h1_217⟩, H⟩ := H
   obtain ⟨a214, ha215, hat213⟩ := Row.at O3.row h0_216 h1_217
   refine ⟨h0_216, (by first | exact h1_217 | omega | (simp at h1_217 ⊢; omega)), a214, ha215, _, ⟨(fun h_ => h_), (hat213 0 _ rfl)⟩, ?_⟩
   have O3 := O3.ext (Ext.drew _)
   have O4 := O4.ext (Ext.drew _)
   have O5 := O5.ext (Ext.drew _)
   have O6 := O6.ext (Ext.drew _)
   have O7 := O7.ext (Ext.drew _)
   have O8 := O8.ext (Ext.drew _)
   have O9 := O9.ext (Ext.drew _)
   have O10 := O10.ext (Ext.drew _)
   have hB := hB.then (Ext.drew _)
   have hS193 := (Chg.refl (fun _ => False) w148).then (Ext.drew _)
   obtain ⟨r218, hr219, H⟩ := qad H
   refine (qbr.con hr219 ).mono ?_
   rintro _ w221 ⟨rfl, e222⟩
   have O3 := O3.ext e222
   have O7 := O7.ext e222
   have O8 := O8.ext e222
   have hS193 := hS193.then e222
   refine ⟨r218, rfl, qa2 hS193, ?_⟩
   obtain ⟨⟨h0_226, h1_227⟩, H⟩ := H
   obtain ⟨a224, ha225, hat223⟩ := Row.at Z3.row h0_226 h1_227
   refine ⟨h0_226, (by first | exact h1_227 | omega | (simp at h1_227 ⊢; omega)), a224, ha225, ?_⟩
   refine Own.stA O3 ha225 h0_226 h1_227 0 r218 (fun w228 P3 e229 hb230 => ?_)
   have O4 := (O4.ext e222).chg e229 (fun h_ => (N3_4) _ ha225 h_.symm)
   have O5 := (O5.ext e222).chg e229 (fun h_ => (N3_5) _ ha225 h_.symm)
   have O6 := (O6.ext e222).chg e229 (fun h_ => (N3_6) _ ha225 h_.symm)
   have O7 := O7.chg e229 (fun h_ => ((O3.qa6 O7.b (by decide))) _ ha225 h_.symm)
   have O8 := O8.chg e229 (((Own.qaq O8 O3 (by decide))).left ha225)
   have O9 := (O9.ext e222).chg e229 ((N9_3).left ha225)
   have O10 := (O10.ext e222).chg e229 (fun h_ => N10_3 _ h_ ⟨_, ha225, rfl⟩)
   have hB := (hB.then e222).chgb e229 (Or.inr (Or.inr ⟨_, ha225, rfl⟩))
   have O3 := P3
   obtain ⟨m231, hm232, hJ233⟩ := H
   exact ⟨m231, hm232, _, _, _, rfl, hJ233, hB, O3, (by first | rfl | assumption | omega | (simp; done) | (simp; omega) | (simp; assumption)), O9, (by first | rfl | assumption | omega | (simp; done) | (simp; omega) | (simp; assumption)), LM9, (by first | exact O4 | (simp only [bC, wC, List.length_set, ← hn137]; exact O4)), O5, O6, (by first | exact O7 | (simp only [bC, wC, List.length_set, ← hn139]; exact O7)), O8, O10⟩
  obtain ⟨m234, hm235, hJ236⟩ := H
  exact ⟨m234, hm235, _, _, _, rfl, hJ236, hB, O3, (by first | rfl | assumption | omega | (simp; done) | (simp; omega) | (simp; assumption)), O9, (by first | rfl | assumption | omega | (simp; done) | (simp; omega) | (simp; assumption)), LM9, (by first | exact O4 | (simp only [bC, wC, List.length_set, ← hn137]; exact O4)), O5, O6, (by first | exact O7 | (simp only [bC, wC, List.length_set, ← hn139]; exact O7)), O8, O10⟩
 refine ⟨_, _, _, (O4.a 0), _, _, _, (O4.a 1), _, _, _, (O4.a 2), _, (O4.a 3), _, (O4.a 4), ?_⟩
 refine stB O5 0 (bC A0_0 c0_0 A0_1 c0_1 A0_2 c0_2 s0) (fun w241 P5 e242 => ?_)
 have O3 := O3.chg e242 N3_5
 have O7 := O7.chg e242 (Blk.qhR O7.b O5 (by decide))
 have O8 := O8.chg e242 (O8.qa6 O5 (by decide))
 have O9 := O9.chg e242 (O9.qa6 O5 (by decide))
 have O10 := O10.chg e242 (O10.qda O5 (by decide) (by decide) (by decide))
 have hB := hB.chgb e242 (Or.inl L5)
 have O5 := P5
 have O2 := (qeP.back O10 hA10 ho10 O7 O8 O9 (by first | rfl | (simp only [bC, wC, List.length_set]; done) | (simp; done) | (simp; omega)) (by first | rfl | (simp only [bC, wC, List.length_set, ← hn139]; done) | (simp; done) | (simp; omega)) (fun _ _ => Nat.zero_le _) (fun _ _ => Nat.zero_le _) (by decide) (by decide) (by decide) N10_8 N10_9).qlQ hF10
 refine ⟨_, _, _, (O5.a 0), _, _, _, (O5.a 1), _, _, _, (O5.a 2), _, (O5.a 3), _, (O5.a 4), ?_⟩
 cases hr.trans H.symm
 exact ⟨rfl, O2, (by first | (simp only [bC, wC, List.length_set]; done) | (simp only [bC, wC, List.length_set, List.length_set]; done) | (simp; done) | (simp; omega) | omega), O3, (by first | (simp only [bC, wC, List.length_set]; done) | (simp only [bC, wC, List.length_set, ← hn137]; done) | (simp; done) | (simp; omega) | omega), hB⟩
def qbp.vc (A0_0 : OA) (n0_0 c0_0 : Nat) (A0_1 : OA) (n0_1 c0_1 : Nat) (A0_2 : OA) (n0_2 c0_2 : Nat) (x0_3 x0_4 : Int) (w : World) (K : VK) : Prop :=
  newK w (.cells (vB A0_0 n0_0 c0_0 A0_1 n0_1 c0_1 A0_2 n0_2 c0_2 x0_3 x0_4) 33) fun g21 w22 => qdA (σ := Int × Unit) (fun z23 w24 next25 => ldS w24 (((bx g21).add 1).add 0) fun A26 n27 c28 => qa1 (decide (z23.1 < ((n27 : Nat) : Int))) (ldS w24 (((bx g21).add 1).add 0) fun A29 n30 c31 => (idx z23.1 n30 A29 fun a32 => ldS w24 (((a32.add ((z23.1.toNat) * 3)).add 1).add 0) fun A33 n34 c35 => qa1 (decide (((n34 : Nat) : Int) > 0)) (ldI w24 (((bx g21).add 3).add 0) fun n36 => ((0 : Int) ≤ z23.1 ∧ qa1 ((qdH .i64 (Int.fdiv n36 (2 ^ (min (z23.1.toNat) (IntKind.bits .i64)))) 1) == 0) (K (.bool false) w24) (next25 ((wrap .i64 (z23.1 + 1)), ()) w24))) (next25 ((wrap .i64 (z23.1 + 1)), ()) w24))) (ldI w24 (((bx g21).add 3).add 0) fun n37 => K (.bool (n37 != 0)) w24)) (0, ()) w22

def qbp.ann : Ann := (.seq .l (.seq (.seq .l (.one (.loop [(3, .int .i64)] (.seq (.seq .l (.two .l .l)) (.seq (.one (.seq .l (.two (.seq .l .l) .l))) .l))))) (.seq .l .l)))

theorem qbp.con {s0 : D.Block} {A0_0 A0_1 A0_2 : OA} {c0_0 c0_1 c0_2 : Nat} {r : Bool} {w : World} (hp : M.qgN s0) (hr : r = M.qbp s0) (R0_0 : Row el84 w A0_0 s0.Code) (hc0_0 : s0.Code.length ≤ c0_0) (R0_1 : RowW 52 el91 el3 w A0_1 s0.Warps) (hc0_1 : s0.Warps.length ≤ c0_1) (R0_2 : Row el3 w A0_2 s0.Memory) (hc0_2 : s0.Memory.length ≤ c0_2) :
    Cl 203 #[(.agg (bC A0_0 c0_0 A0_1 c0_1 A0_2 c0_2 s0))] w (fun v_ w_ => v_ = (.bool r) ∧ Ext w w_) := by
 have H := wp.qbp.math s0 hp
 refine begK mixed Tryz.f203 ann (vc A0_0 s0.Code.length c0_0 A0_1 s0.Warps.length c0_1 A0_2 s0.Memory.length c0_2 s0.Waiting s0.Phase) ?_
 unfold vc
 unfold wp.qbp at H
 refine qax (fun g4_ w21 L4 O4 e22 => ?_)
 have hB := qa5 (Ext.refl w) e22
 obtain ⟨J25, ⟨m57, hJ56⟩, hS26⟩ := H
 refine ⟨fun m_ z_ w_ => ∃ (i23 : Int), z_ = (i23, ()) ∧ J25 m_ (i23, ()) ∧ Ext w w_ ∧ Blk w_ g4_ 33 (bC A0_0 c0_0 A0_1 c0_1 A0_2 c0_2 s0), ⟨m57, 0, rfl, hJ56, hB, O4⟩, ?_⟩
 rintro m24 _ w28 ⟨i23, rfl, hJ58, hB, O4⟩
 have H := hS26 m24 _ hJ58
 clear hS26 hJ58
 try dsimp only at H ⊢
 refine ⟨_, _, _, (O4.a 1), ?_⟩
 refine brc H (fun h H => ?_) fun h H => ?_
 ·refine ⟨_, _, _, (O4.a 1), ?_⟩
  obtain ⟨⟨h0_32, h1_33⟩, H⟩ := H
  obtain ⟨a30, ha31, A37, c38, A39, c40, f34, f35, f36, R41, hle43, R42, hle44⟩ := RowW.at R0_1 h0_32 h1_33
  refine ⟨h0_32, h1_33, a30, ha31, _, _, _, (Ext.cell hB f35), ?_⟩
  refine brc H (fun h H => ?_) fun h H => ?_
  ·refine ⟨_, (O4.a 3), ?_⟩
   obtain ⟨hc45, H⟩ := H
   refine ⟨hc45, ?_⟩
   refine brc H (fun h H => ?_) fun h H => ?_
   ·cases hr.trans H.symm
    exact ⟨rfl, hB⟩
   obtain ⟨m46, hm47, hJ48⟩ := H
   exact ⟨m46, hm47, _, rfl, hJ48, hB, O4⟩
  obtain ⟨m50, hm51, hJ52⟩ := H
  exact ⟨m50, hm51, _, rfl, hJ52, hB, O4⟩
 refine ⟨_, (O4.a 3), ?_⟩
 cases hr.trans H.symm
 exact ⟨rfl, hB⟩
def qds.vc (A0_0 : OA) (n0_0 c0_0 : Nat) (A0_1 : OA) (n0_1 c0_1 : Nat) (A0_2 : OA) (n0_2 c0_2 : Nat) (x0_3 x0_4 x1 : Int) (w : World) (K : VK) : Prop :=
  newK w (.cells (vB A0_0 n0_0 c0_0 A0_1 n0_1 c0_1 A0_2 n0_2 c0_2 x0_3 x0_4) 33) fun g21 w22 => newK w22 (.cells zC 33) fun g23 w24 => ldB w24 (bx g21) fun A25 n26 c27 A28 n29 c30 A31 n32 c33 n34 n35 => Cl 199 #[(.agg (vB A25 n26 c27 A28 n29 c30 A31 n32 c33 n34 n35))] w24 fun v36 w37 => (∃ (A38 : OA) (n39 c40 : Nat), True ∧ ∃ (A41 : OA) (n42 c43 : Nat), True ∧ ∃ (A44 : OA) (n45 c46 : Nat), True ∧ ∃ (n47 : Int), True ∧ ∃ (n48 : Int), True ∧ v36 = (.agg (vB A38 n39 c40 A41 n42 c43 A44 n45 c46 n47 n48)) ∧ newK w37 (.cells zC 33) fun g49 w50 => qa7 (bx g49) [(sv A38 n39 c40), (sv A41 n42 c43), (sv A44 n45 c46), (iv n47), (iv n48)] 0 w50 fun w51 => ldB w51 (bx g21) fun A52 n53 c54 A55 n56 c57 A58 n59 c60 n61 n62 => Cl 98 #[(.agg (vB A52 n53 c54 A55 n56 c57 A58 n59 c60 n61 n62)), (iv x1)] w51 fun v63 w64 => (∃ (n65 : Int), True ∧ ∃ (n66 : Int), True ∧ ∃ (n67 : Int), True ∧ ∃ (n68 : Int), True ∧ v63 = (.agg #[(iv n65), (iv n66), (iv n67), (iv n68)]) ∧ newK w64 (.cells #[(iv 0), (iv 0), (iv 0), (iv 0)] 84) fun g69 w70 => qa7 (bx g69) [(iv n65), (iv n66), (iv n67), (iv n68)] 0 w70 fun w71 => qfL (σ := Unit) (fun J72 => ldI w71 ((bx g69).add 0) fun n73 => ldI w71 ((bx g69).add 1) fun n74 => ldI w71 ((bx g69).add 2) fun n75 => ldI w71 ((bx g69).add 3) fun n76 => Cl 124 #[(.agg #[(iv n73), (iv n74), (iv n75), (iv n76)])] w71 fun v77 w78 => (∃ (b79 : Bool), v77 = (.bool b79) ∧ qa1 b79 ((∃ M80 : Nat → Prop, ldSM M80 w78 ((bx g49).add 1) 0 fun A81 n82 c83 => ldSM M80 w78 ((bx g21).add 0) 0 fun A84 n85 c86 => ldSM M80 w78 ((bx g21).add 1) 0 fun A87 n88 c89 => (idx x1 n88 A87 fun a90 => ldIM M80 w78 (a90.add ((x1.toNat) * 3)) 0 fun n91 => ldSM M80 w78 (a90.add ((x1.toNat) * 3)) 1 fun A92 n93 c94 => ldSM M80 w78 (a90.add ((x1.toNat) * 3)) 2 fun A95 n96 c97 => Cl 200 #[(sv A84 n85 c86), (.agg #[(iv n91), (sv A92 n93 c94), (sv A95 n96 c97)])] w78.drew fun v98 w99 => (∃ (n100 : Int), True ∧ ∃ (A101 : OA) (n102 c103 : Nat), True ∧ ∃ (A104 : OA) (n105 c106 : Nat), True ∧ v98 = (.agg #[(iv n100), (sv A101 n102 c103), (sv A104 n105 c106)]) ∧ qac M80 w78 w99 ∧ (idx x1 n82 A81 fun a107 => qa7 (a107.add ((x1.toNat) * 3)) [(iv n100), (sv A101 n102 c103), (sv A104 n105 c106)] 0 w99 fun w108 => J72 () w108))))) (ldB w78 (bx g49) fun A109 n110 c111 A112 n113 c114 A115 n116 c117 n118 n119 => Cl 201 #[(.agg (vB A109 n110 c111 A112 n113 c114 A115 n116 c117 n118 n119)), (iv x1)] w78 fun v120 w121 => (∃ (A122 : OA) (n123 c124 : Nat), True ∧ ∃ (A125 : OA) (n126 c127 : Nat), True ∧ ∃ (A128 : OA) (n129 c130 : Nat), True ∧ ∃ (n131 : Int), True ∧ ∃ (n132 : Int), True ∧ v120 = (.agg (vB A122 n123 c124 A125 n126 c127 A128 n129 c130 n131 n132)) ∧ qa7 (bx g49) [(sv A122 n123 c124), (sv A125 n126 c127), (sv A128 n129 c130), (iv n131), (iv n132)] 0 w121 fun w133 => qfL (σ := Unit) (fun J134 => ldI w133 (((bx g69).add 0).add 0) fun n135 => qa1 (n135 == 16) (((0 : Int) ≤ x1 ∧ ((∃ (n136 : Int), w133.drew.cell? (((bx g49).add 3).add 0) = some (iv n136) ∧ ((qa7 ((bx g49).add 3) [(iv (qgS .i64 n136 (wrap .i64 (1 * 2 ^ (min (x1.toNat) (IntKind.bits .i64))))))] 0 w133.drew fun w137 => J134 () w137) ∧ True)) ∧ True))) (J134 () w133)) fun z138 w139 => ldS w139 (((bx g49).add 1).add 0) fun A140 n141 c142 => (idx x1 n141 A140 fun a143 => ldS w139 (((a143.add ((x1.toNat) * 3)).add 1).add 0) fun A144 n145 c146 => (∃ M147 : Nat → Prop, ldSM M147 w139 ((bx g49).add 1) 0 fun A148 n149 c150 => (idx x1 n149 A148 fun a151 => ldSM M147 w139 ((a151.add ((x1.toNat) * 3)).add 1) 0 fun A152 n153 c154 => ldSM M147 w139 ((bx g49).add 1) 0 fun A155 n156 c157 => (idx x1 n156 A155 fun a158 => ldSM M147 w139 ((a158.add ((x1.toNat) * 3)).add 1) 0 fun A159 n160 c161 => (idx (wrap .i64 (((n145 : Nat) : Int) - 1)) n160 A159 fun a162 => ldIM M147 w139 ((a162.add (((wrap .i64 (((n145 : Nat) : Int) - 1)).toNat) * 3)).add 0) 0 fun n163 => (idx (wrap .i64 (((n145 : Nat) : Int) - 1)) n153 A152 fun a164 => qa7 ((a164.add (((wrap .i64 (((n145 : Nat) : Int) - 1)).toNat) * 3)).add 0) [(iv (wrap .i64 (n163 + 1)))] 0 w139.drew fun w165 => (∃ M166 : Nat → Prop, ldSM M166 w165 ((bx g49).add 1) 0 fun A167 n168 c169 => ldSM M166 w165 ((bx g21).add 0) 0 fun A170 n171 c172 => ldSM M166 w165 ((bx g49).add 1) 0 fun A173 n174 c175 => (idx x1 n174 A173 fun a176 => ldIM M166 w165 (a176.add ((x1.toNat) * 3)) 0 fun n177 => ldSM M166 w165 (a176.add ((x1.toNat) * 3)) 1 fun A178 n179 c180 => ldSM M166 w165 (a176.add ((x1.toNat) * 3)) 2 fun A181 n182 c183 => Cl 202 #[(sv A170 n171 c172), (.agg #[(iv n177), (sv A178 n179 c180), (sv A181 n182 c183)])] w165.drew fun v184 w185 => (∃ (n186 : Int), True ∧ ∃ (A187 : OA) (n188 c189 : Nat), True ∧ ∃ (A190 : OA) (n191 c192 : Nat), True ∧ v184 = (.agg #[(iv n186), (sv A187 n188 c189), (sv A190 n191 c192)]) ∧ qac M166 w165 w185 ∧ (idx x1 n168 A167 fun a193 => qa7 (a193.add ((x1.toNat) * 3)) [(iv n186), (sv A187 n188 c189), (sv A190 n191 c192)] 0 w185 fun w194 => J72 () w194)))))))))))))) fun z195 w196 => ldB w196 (bx g49) fun A197 n198 c199 A200 n201 c202 A203 n204 c205 n206 n207 => Cl 203 #[(.agg (vB A197 n198 c199 A200 n201 c202 A203 n204 c205 n206 n207))] w196 fun v208 w209 => (∃ (b210 : Bool), v208 = (.bool b210) ∧ qa1 b210 (qa7 ((bx g49).add 3) [(iv 0)] 0 w209 fun w211 => ldI w211 (((bx g49).add 4).add 0) fun n212 => qa7 ((bx g49).add 4) [(iv (wrap .i64 (n212 + 1)))] 0 w211 fun w213 => ldB w213 (bx g49) fun A214 n215 c216 A217 n218 c219 A220 n221 c222 n223 n224 => qa7 (bx g23) [(sv A214 n215 c216), (sv A217 n218 c219), (sv A220 n221 c222), (iv n223), (iv n224)] 0 w213 fun w225 => ldB w225 (bx g23) fun A226 n227 c228 A229 n230 c231 A232 n233 c234 n235 n236 => K (.agg (vB A226 n227 c228 A229 n230 c231 A232 n233 c234 n235 n236)) w225) (ldB w209 (bx g49) fun A237 n238 c239 A240 n241 c242 A243 n244 c245 n246 n247 => qa7 (bx g23) [(sv A237 n238 c239), (sv A240 n241 c242), (sv A243 n244 c245), (iv n246), (iv n247)] 0 w209 fun w248 => ldB w248 (bx g23) fun A249 n250 c251 A252 n253 c254 A255 n256 c257 n258 n259 => K (.agg (vB A249 n250 c251 A252 n253 c254 A255 n256 c257 n258 n259)) w248))))

def qds.ann : Ann := (.seq .l (.seq .l (.seq .l (.cut [] (.seq .l (.two .l (.seq .l (.cut [] (.seq .l (.two .each .l)) (.seq .l (.seq .l .l)))))) (.seq (.seq .l (.two (.seq .l .l) .l)) (.seq .l .l))))))

theorem qds.con {s0 r : D.Block} {A0_0 A0_1 A0_2 : OA} {c0_0 c0_1 c0_2 : Nat} {x1 : Int} {w : World} (hp : M.qgs s0 x1) (hr : r = M.qds s0 x1) (R0_0 : Row el84 w A0_0 s0.Code) (hc0_0 : s0.Code.length ≤ c0_0) (R0_1 : RowW 52 el91 el3 w A0_1 s0.Warps) (hc0_1 : s0.Warps.length ≤ c0_1) (R0_2 : Row el3 w A0_2 s0.Memory) (hc0_2 : s0.Memory.length ≤ c0_2) :
    Cl 164 #[(.agg (bC A0_0 c0_0 A0_1 c0_1 A0_2 c0_2 s0)), (iv x1)] w (fun v_ w_ => ∃ (A0_ : OA) (c0_ : Nat) (A1_ : OA) (c1_ : Nat) (F1_ : Nat → Prop) (A2_ : OA) (c2_ : Nat), v_ = (.agg (bC A0_ c0_ A1_ c1_ A2_ c2_ r)) ∧ Own el84 w_ w.heap.size A0_ c0_ r.Code ∧ OwnW 52 el91 el3 w_ w.heap.size F1_ A1_ c1_ r.Warps ∧ Own el3 w_ w.heap.size A2_ c2_ r.Memory ∧ Dis (InW A1_ F1_) (InB A2_) ∧ Ext w w_) := by
 have H := wp.qds.math s0 x1 hp
 refine begK mixed Tryz.f164 ann (vc A0_0 s0.Code.length c0_0 A0_1 s0.Warps.length c0_1 A0_2 s0.Memory.length c0_2 s0.Waiting s0.Phase x1) ?_
 unfold vc
 unfold wp.qds at H
 refine qax (fun g4_ w21 L4 O4 e22 => ?_)
 have hB := qa5 (Ext.refl w) e22
 refine qax (fun g5_ w23 L5 P5 e24 => ?_)
 have O4 := O4.ext e24
 have O5 := P5
 have L5 := Nat.le_trans hB.size L5
 have hB := qa5 hB e24
 refine ⟨_, _, _, (O4.a 0), _, _, _, (O4.a 1), _, _, _, (O4.a 2), _, (O4.a 3), _, (O4.a 4), ?_⟩
 obtain ⟨hp27, H⟩ := H
 obtain ⟨r25, hr26, H⟩ := qad H
 refine (qdj.con hp27 hr26 (R0_0.ext hB) hc0_0 (R0_1.ext hB) hc0_1 (R0_2.ext hB) hc0_2).mono ?_
 rintro _ w28 ⟨A30, c31, A32, c33, F36, A34, c35, rfl, P6, P7, P8, N7_8, e29⟩
 have N6_5 := P6.qa8 O5.lt
 have N7_4 := P7.qeT O4 (Nat.le_refl _)
 have N7_5 := P7.qeT O5 (Nat.le_refl _)
 have N8_4 := P8.qa8 O4.lt
 have N8_5 := P8.qa8 O5.lt
 have O4 := O4.ext e29
 have O5 := O5.ext e29
 have O6 := P6.mono hB.size
 have O7 := P7.mono hB.size
 have O8 := P8.mono hB.size
 have hB := qa5 hB e29
 refine ⟨A30, r25.Code.length, c31, trivial, A32, r25.Warps.length, c33, trivial, A34, r25.Memory.length, c35, trivial, r25.Waiting, trivial, r25.Phase, trivial, rfl, ?_⟩
 refine qax (fun g9_ w37 L9 P9 e38 => ?_)
 have N4_9 := O4.ne L9
 have N5_9 := O5.ne L9
 have N6_9 := O6.qag L9
 have N7_9 := O7.qcv L9
 have N8_9 := O8.qag L9
 have O4 := O4.ext e38
 have O5 := O5.ext e38
 have O6 := O6.ext e38
 have O7 := O7.ext e38
 have O8 := O8.ext e38
 have O9 := P9
 have L9 := Nat.le_trans hB.size L9
 have hB := qa5 hB e38
 refine stB O9 0 (bC A30 c31 A32 c33 A34 c35 r25) (fun w39 P9 e40 => ?_)
 have O4_ := O4.chg e40 N4_9
 have O5_ := O5.chg e40 N5_9
 have O6_ := O6.chg e40 N6_9
 have O7_ := O7.chg e40 N7_9
 have O8_ := O8.chg e40 N8_9
 have O4 := O4_
 have hB := echg hB e40 L9
 refine ⟨_, _, _, (O4.a 0), _, _, _, (O4.a 1), _, _, _, (O4.a 2), _, (O4.a 3), _, (O4.a 4), ?_⟩
 obtain ⟨hp43, H⟩ := H
 obtain ⟨r41, hr42, H⟩ := qad H
 refine (qch.con hp43 hr42 (R0_0.ext hB) hc0_0 (R0_1.ext hB) hc0_1 (R0_2.ext hB) hc0_2).mono ?_
 rintro _ w44 ⟨rfl, e45⟩
 have O4 := O4.ext e45
 have O5 := O5_.ext e45
 have O6 := O6_.ext e45
 have O7 := O7_.ext e45
 have O8 := O8_.ext e45
 have O9 := P9.ext e45
 have hB := qa5 hB e45
 refine ⟨r41.Op, trivial, r41.A, trivial, r41.B, trivial, r41.C, trivial, rfl, ?_⟩
 refine qax (fun g10_ w46 L10 P10 e47 => ?_)
 have N4_10 := O4.ne L10
 have N5_10 := O5.ne L10
 have N6_10 := O6.qag L10
 have N7_10 := O7.qcv L10
 have N8_10 := O8.qag L10
 have N9_10 := O9.ne L10
 have O6 := O6.ext e47
 have O7 := O7.ext e47
 have O8 := O8.ext e47
 have O9 := O9.ext e47
 have O10 := P10
 have L10 := Nat.le_trans hB.size L10
 have hB := qa5 hB e47
 refine qbI O10 (o := 0) (cs' := (iC r41)) rfl rfl (Nat.le_of_ble_eq_true rfl) rfl (fun w48 O10 e49 => ?_)
 have O4 := (O4.ext e47).chg e49 N4_10
 have O5 := (O5.ext e47).chg e49 N5_10
 have O6_ := O6.chg e49 N6_10
 have O7_ := O7.chg e49 N7_10
 have O8_ := O8.chg e49 N8_10
 have O9_ := O9.chg e49 N9_10
 have O6 := O6_
 have O7 := O7_
 have O8 := O8_
 have O9 := O9_
 have hB := echg hB e49 L10
 obtain ⟨K169, hKK169, H⟩ := qcR H
 refine ⟨fun z_ w_ => ∃ (i50 i51 : Int) (xs52 : List D.Warp) (xs55 : List Int) (F53 : Nat → Prop), z_ = (()) ∧ K169 (i50, i51, xs52, xs55, ()) ∧ Ext w w_ ∧ Blk w_ g9_ 33 #[(sv A30 r25.Code.length c31), (sv A32 r25.Warps.length c33), (sv A34 r25.Memory.length c35), (iv i50), (iv i51)] ∧ OwnW 52 el91 el3 w_ w.heap.size F53 A32 c33 xs52 ∧ r25.Warps.length = xs52.length ∧ Dis (InW A32 F53) (InB A34) ∧ Own el3 w_ w.heap.size A34 c35 xs55 ∧ r25.Memory.length = xs55.length ∧ Blk w_ g5_ 33 zC ∧ Own el84 w_ w.heap.size A30 c31 r25.Code, ?_, ?_⟩
 ·refine ⟨_, (O10.a 0), _, (O10.a 1), _, (O10.a 2), _, (O10.a 3), ?_⟩
  obtain ⟨r60, hr61, H⟩ := qad H
  refine (qcA.con hr61 ).mono ?_
  rintro _ w63 ⟨rfl, e64⟩
  have O4 := O4.ext e64
  have O5 := O5.ext e64
  have O6 := O6.ext e64
  have O7 := O7.ext e64
  have O8 := O8.ext e64
  have O9 := O9.ext e64
  have O10 := O10.ext e64
  have hB := qa5 hB e64
  refine ⟨r60, rfl, ?_⟩
  refine brc H (fun h H => ?_) fun h H => ?_
  ·obtain ⟨⟨h0_66, h1_67⟩, H⟩ := H
   obtain ⟨g25_, o25_, z25_, A26_, c26_, A27_, c27_, R25_, G28_, hA28, ha28, ho28, O25, O26, O27, O28, hF28, N28_26, N28_27, N28_25, L25⟩ := OwnW.focus O7 h0_66 h1_67 (by decide) (by decide) (by decide)
   have N28_8 := qdW N7_8 (qgb hF28)
   refine ⟨(fun _ => False), _, _, _, noM (O9.a 1), _, _, _, noM (O4.a 0), _, _, _, noM (O4.a 1), ?_⟩
   obtain ⟨⟨h0_71, h1_72⟩, H⟩ := H
   obtain ⟨a69, ha70, A76, c77, A78, c79, f73, f74, f75, R80, hle82, R81, hle83⟩ := RowW.at R0_1 h0_71 h1_72
   refine ⟨h0_71, h1_72, a69, ha70, _, ⟨(fun h_ => h_), (Ext.cell hB f73)⟩, _, _, _, ⟨(fun h_ => h_), (Ext.cell hB f74)⟩, _, _, _, ⟨(fun h_ => h_), (Ext.cell hB f75)⟩, ?_⟩
   have O5 := O5.ext (Ext.drew _)
   have O6 := O6.ext (Ext.drew _)
   have O8 := O8.ext (Ext.drew _)
   have O9 := O9.ext (Ext.drew _)
   have O25 := O25.ext (Ext.drew _)
   have O28 := O28.ext (Ext.drew _)
   have hB := qa5 hB (Ext.drew _)
   have hS65 := (Chg.refl (fun _ => False) w63).then (Ext.drew _)
   obtain ⟨hp86, H⟩ := H
   obtain ⟨r84, hr85, H⟩ := qad H
   refine (cllA (qdk.con hp86 hr85 (R0_0.ext hB) hc0_0 (R80.ext hB) hle82 (R81.ext hB) hle83)).mono ?_
   rintro _ w87 ⟨A89, c90, A91, c92, rfl, P31, P32, e88⟩
   have N8_31 := aN O8 P31
   have N31_25 := P31.qa8 O25.lt
   have N28_31 := O28.qf0 P31 (Nat.le_refl _)
   have N8_32 := aN O8 P32
   have N32_25 := P32.qa8 O25.lt
   have N28_32 := O28.qf0 P32 (Nat.le_refl _)
   have O5 := O5.ext e88
   have O6 := O6.ext e88
   have O8 := O8.ext e88
   have O9 := O9.ext e88
   have O25 := O25.ext e88
   have O31 := P31.mono hB.size
   have O32 := P32.mono hB.size
   have hB := qa5 hB e88
   have hS65 := hS65.then e88
   refine ⟨r84.Number, trivial, A89, r84.Frames.length, c90, trivial, A91, r84.Regs.length, c92, trivial, rfl, qa2 hS65, ?_⟩
   obtain ⟨⟨h0_93, h1_94⟩, H⟩ := H
   refine ⟨h0_93, (by first | exact h1_94 | omega | (simp at h1_94 ⊢; omega)), (⟨g25_, z25_, none⟩ : Addr), hA28, ?_⟩
   try dsimp only
   try rw [ha28]
   refine qmx O25 (j := 0) (cs' := (wC A89 c90 A91 c92 r84)) rfl rfl (Nat.le_of_ble_eq_true rfl) rfl (fun w95 P25 e96 => ?_)
   have O5 := O5.chg e96 (Blk.qhR O5 O25.b (by decide))
   have O6 := O6.chg e96 (O6.qa6 O25.b (by decide))
   have O8 := O8.chg e96 (O8.qa6 O25.b (by decide))
   have O9 := O9.chg e96 (Blk.qhR O9 O25.b (by decide))
   have O28 := (O28.ext e88).chg e96 N28_25
   have O31 := O31.chg e96 N31_25
   have O32 := O32.chg e96 N32_25
   have hB := echg hB e96 L25
   have O25 := P25
   have O7 := (qeP.back O28 hA28 ho28 O25 O31 O32 rfl rfl O31.low O32.low (by decide) (by decide) (by decide) N28_31 N28_32)
   have N7_8 := qeF (qie hA28 (O8.qa6 O25.b (by decide))) N28_8 (N8_31).symm (N8_32).symm
   exact ⟨_, _, _, _, (fun k => G28_ k ∨ InB A89 k ∨ InB A91 k), rfl, H, hB, (by first | exact O9 | (simp only [bC, wC, List.length_set]; exact O9)), O7, (by first | rfl | assumption | omega | (simp; done) | (simp; omega) | (simp; assumption)), N7_8, O8, (by first | rfl | assumption | omega | (simp; done) | (simp; omega) | (simp; assumption)), O5, O6⟩
  refine ⟨_, _, _, (O9.a 0), _, _, _, (O9.a 1), _, _, _, (O9.a 2), _, (O9.a 3), _, (O9.a 4), ?_⟩
  obtain ⟨hp99, H⟩ := H
  obtain ⟨r97, hr98, H⟩ := qad H
  refine (qbV.con hp99 hr98 O6.row O6.le (O7.mono (Nat.zero_le _)) (O8.mono (Nat.zero_le _)) N7_8 (fun _ => (fun g h_ => (fun hS_ => hS_.elim (((O7.qhk O6 (by decide) (by decide) (by decide))).symm g h_) (((Own.qaq O6 O8 (by decide))).inb g h_))))).mono ?_
  rintro _ w100 ⟨rfl, Q7, hl102, Q8, hl103, e101⟩
  have O4 := O4.chgS e101 (fun hS_ => hS_.elim N7_4 (N8_4).inb)
  have O5 := O5.chgS e101 (fun hS_ => hS_.elim N7_5 (N8_5).inb)
  have O6 := O6.chgS e101 (fun g h_ => (fun hS_ => hS_.elim (((O7.qhk O6 (by decide) (by decide) (by decide))).symm g h_) (((Own.qaq O6 O8 (by decide))).inb g h_)))
  have O9 := O9.chgS e101 (fun hS_ => hS_.elim N7_9 (N8_9).inb)
  have hB := Chg.ext hB e101 (fun g => (fun hS_ => hS_.elim (O7.lowW g) (O8.low g)))
  have O8 := Q8.up O8
  refine ⟨A30, r25.Code.length, c31, trivial, A32, r25.Warps.length, c33, trivial, A34, r25.Memory.length, c35, trivial, r97.1.Waiting, trivial, r97.1.Phase, trivial, rfl, ?_⟩
  refine stB O9 0 #[(sv A30 r25.Code.length c31), (sv A32 r25.Warps.length c33), (sv A34 r25.Memory.length c35), (iv r97.1.Waiting), (iv r97.1.Phase)] (fun w104 P9 e105 => ?_)
  have O4_ := O4.chg e105 N4_9
  have O5_ := O5.chg e105 N5_9
  have O6_ := O6.chg e105 N6_9
  have O7 := (Q7.up O7).chg e105 N7_9
  have O8_ := O8.chg e105 N8_9
  have O10 := (O10.chgS e101 (fun hS_ => hS_.elim N7_10 (N8_10).inb)).chg e105 (N9_10).symm
  have O4 := O4_
  have O5 := O5_
  have O6 := O6_
  have O8 := O8_
  have hB := echg hB e105 L9
  have O9 := P9
  obtain ⟨K152, hKK152, H⟩ := qcR H
  refine ⟨fun z_ w_ => ∃ (i106 i107 : Int), z_ = (()) ∧ K152 (i106, i107, ()) ∧ Ext w w_ ∧ Blk w_ g9_ 33 #[(sv A30 r25.Code.length c31), (sv A32 r25.Warps.length c33), (sv A34 r25.Memory.length c35), (iv i106), (iv i107)] ∧ Blk w_ g4_ 33 (bC A0_0 c0_0 A0_1 c0_1 A0_2 c0_2 s0) ∧ Blk w_ g5_ 33 zC ∧ Own el84 w_ w.heap.size A30 c31 r25.Code ∧ OwnW 52 el91 el3 w_ w.heap.size F36 A32 c33 r97.2.1 ∧ Own el3 w_ w.heap.size A34 c35 r97.2.2, ?_, ?_⟩
  ·refine ⟨_, (O10.a 0), ?_⟩
   refine brc H (fun h H => ?_) fun h H => ?_
   ·have O9 := O9.ext (Ext.drew _)
    have hB := qa5 hB (Ext.drew _)
    obtain ⟨hc111, H⟩ := H
    refine ⟨hc111, ?_⟩
    refine qd2 ?_
    refine ⟨_, (O9.a 3), ?_⟩
    refine qd2 ?_
    refine qbI O9 (o := 3) (cs' := #[(sv A30 r25.Code.length c31), (sv A32 r25.Warps.length c33), (sv A34 r25.Memory.length c35), (iv (qgS .i64 r97.1.Waiting (wrap .i64 (1 * 2 ^ (min (x1.toNat) (IntKind.bits .i64)))))), (iv r97.1.Phase)]) rfl rfl (Nat.le_of_ble_eq_true rfl) rfl (fun w112 O9 e113 => ?_)
    have O4 := (O4.ext (Ext.drew _)).chg e113 N4_9
    have O5 := (O5.ext (Ext.drew _)).chg e113 N5_9
    have O6 := (O6.ext (Ext.drew _)).chg e113 N6_9
    have O7 := (O7.ext (Ext.drew _)).chg e113 N7_9
    have O8 := (O8.ext (Ext.drew _)).chg e113 N8_9
    have hB := echg hB e113 L9
    exact ⟨_, _, rfl, H, hB, (by first | exact O9 | (simp only [bC, wC, List.length_set, hl102, hl103]; exact O9)), O4, O5, O6, O7, O8⟩
   exact ⟨_, _, rfl, H, hB, (by first | exact O9 | (simp only [bC, wC, List.length_set, hl102, hl103]; exact O9)), O4, O5, O6, O7, O8⟩
  rintro _ w109 ⟨i106, i107, rfl, H, hB, O9, O4, O5, O6, O7, O8⟩
  have H := hKK152 _ H
  try dsimp only at H ⊢
  refine ⟨_, _, _, (O9.a 1), ?_⟩
  obtain ⟨⟨h0_115, h1_116⟩, H⟩ := H
  obtain ⟨g33_, o33_, z33_, A34_, c34_, A35_, c35_, R33_, G36_, hA36, ha36, ho36, O33, O34, O35, O36, hF36, N36_34, N36_35, N36_33, L33⟩ := OwnW.focus O7 h0_115 h1_116 (by decide) (by decide) (by decide)
  have N36_8 := qdW N7_8 (qgb hF36)
  refine ⟨h0_115, (by first | exact h1_116 | omega | (simp at h1_116 ⊢; omega)), (⟨g33_, z33_, none⟩ : Addr), hA36, ?_⟩
  try dsimp only
  try rw [ha36]
  refine ⟨_, _, _, (O33.a 1), (fun _ => False), _, _, _, noM (O9.a 1), ?_⟩
  obtain ⟨⟨h0_118, h1_119⟩, H⟩ := H
  refine ⟨h0_118, (by first | exact h1_119 | omega | (simp at h1_119 ⊢; omega)), (⟨g33_, z33_, none⟩ : Addr), hA36, ?_⟩
  try dsimp only
  try rw [ha36]
  refine ⟨_, _, _, noM (O33.a 1), _, _, _, noM (O9.a 1), ?_⟩
  obtain ⟨⟨h0_120, h1_121⟩, H⟩ := H
  refine ⟨h0_120, (by first | exact h1_121 | omega | (simp at h1_121 ⊢; omega)), (⟨g33_, z33_, none⟩ : Addr), hA36, ?_⟩
  try dsimp only
  try rw [ha36]
  refine ⟨_, _, _, noM (O33.a 1), ?_⟩
  obtain ⟨⟨h0_125, h1_126⟩, H⟩ := H
  obtain ⟨a123, ha124, hat122⟩ := Row.at O34.row h0_125 h1_126
  refine ⟨h0_125, (by first | exact h1_126 | omega | (simp at h1_126 ⊢; omega)), a123, ha124, _, ⟨(fun h_ => h_), (hat122 0 _ rfl)⟩, ?_⟩
  obtain ⟨⟨h0_130, h1_131⟩, H⟩ := H
  obtain ⟨a128, ha129, hat127⟩ := Row.at O34.row h0_130 h1_131
  refine ⟨h0_130, (by first | exact h1_131 | omega | (simp at h1_131 ⊢; omega)), a128, ha129, ?_⟩
  have O4 := O4.ext (Ext.drew _)
  have O5 := O5.ext (Ext.drew _)
  have O6 := O6.ext (Ext.drew _)
  have O8 := O8.ext (Ext.drew _)
  have O9 := O9.ext (Ext.drew _)
  have O33 := O33.ext (Ext.drew _)
  have O34 := O34.ext (Ext.drew _)
  have O35 := O35.ext (Ext.drew _)
  have O36 := O36.ext (Ext.drew _)
  have hB := qa5 hB (Ext.drew _)
  refine Own.stA O34 ha129 h0_130 h1_131 0 (⟨(wrap .i64 ((rd ((rd r97.2.1 x1).Frames) (wrap .i64 (((rd r97.2.1 x1).Frames.length : Int) - 1))).Pc + 1)), (rd ((rd r97.2.1 x1).Frames) (wrap .i64 (((rd r97.2.1 x1).Frames.length : Int) - 1))).Stop, (rd ((rd r97.2.1 x1).Frames) (wrap .i64 (((rd r97.2.1 x1).Frames.length : Int) - 1))).Mask⟩ : D.Frame) (fun w132 P34 e133 hb134 => ?_)
  have O4_ := O4.chg e133 (fun h_ => ((O34.qa6 O4 (by decide))) _ ha129 h_.symm)
  have O5_ := O5.chg e133 (fun h_ => ((O34.qa6 O5 (by decide))) _ ha129 h_.symm)
  have O6_ := O6.chg e133 (((Own.qaq O6 O34 (by decide))).left ha129)
  have O8_ := O8.chg e133 (((Own.qaq O8 O34 (by decide))).left ha129)
  have O9_ := O9.chg e133 (fun h_ => ((O34.qa6 O9 (by decide))) _ ha129 h_.symm)
  have O33 := O33.chg e133 (fun h_ => ((O34.qa6 O33.b (by decide))) _ ha129 h_.symm)
  have O35_ := O35.chg e133 (((Own.qaq O35 O34 (by decide))).left ha129)
  have O36_ := O36.chg e133 (fun h_ => N36_34 _ h_ ⟨_, ha129, rfl⟩)
  have O4 := O4_
  have O9 := O9_
  refine ⟨(fun _ => False), _, _, _, noM (O9.a 1), _, _, _, noM (O4.a 0), _, _, _, noM (O9.a 1), ?_⟩
  obtain ⟨⟨h0_136, h1_137⟩, H⟩ := H
  refine ⟨h0_136, (by first | exact h1_137 | omega | (simp at h1_137 ⊢; omega)), (⟨g33_, z33_, none⟩ : Addr), hA36, ?_⟩
  try dsimp only
  try rw [ha36]
  refine ⟨_, noM (O33.a 0), _, _, _, noM (O33.a 1), _, _, _, noM (O33.a 2), ?_⟩
  have O5 := O5_.ext (Ext.drew _)
  have O6 := O6_.ext (Ext.drew _)
  have O8 := O8_.ext (Ext.drew _)
  have O9 := O9.ext (Ext.drew _)
  have O33 := O33.ext (Ext.drew _)
  have O34 := P34.ext (Ext.drew _)
  have O35 := O35_.ext (Ext.drew _)
  have O36 := O36_.ext (Ext.drew _)
  have hB := qa5 (echg hB e133 hb134) (Ext.drew _)
  have hS135 := (Chg.refl (fun _ => False) w132).then (Ext.drew _)
  obtain ⟨hp140, H⟩ := H
  obtain ⟨r138, hr139, H⟩ := qad H
  refine (cllA (qaG.con hp140 hr139 (R0_0.ext hB) hc0_0 O34.row O34.le O35.row O35.le)).mono ?_
  rintro _ w141 ⟨A143, c144, A145, c146, rfl, P37, P38, e142⟩
  have N8_37 := aN O8 P37
  have N37_33 := P37.qa8 O33.lt
  have N36_37 := O36.qf0 P37 (Nat.le_refl _)
  have N8_38 := aN O8 P38
  have N38_33 := P38.qa8 O33.lt
  have N36_38 := O36.qf0 P38 (Nat.le_refl _)
  have O5 := O5.ext e142
  have O6 := O6.ext e142
  have O8 := O8.ext e142
  have O9 := O9.ext e142
  have O33 := O33.ext e142
  have O37 := P37.mono hB.size
  have O38 := P38.mono hB.size
  have hB := qa5 hB e142
  have hS135 := hS135.then e142
  refine ⟨r138.Number, trivial, A143, r138.Frames.length, c144, trivial, A145, r138.Regs.length, c146, trivial, rfl, qa2 hS135, ?_⟩
  obtain ⟨⟨h0_147, h1_148⟩, H⟩ := H
  refine ⟨h0_147, (by first | exact h1_148 | omega | (simp at h1_148 ⊢; omega)), (⟨g33_, z33_, none⟩ : Addr), hA36, ?_⟩
  try dsimp only
  try rw [ha36]
  refine qmx O33 (j := 0) (cs' := (wC A143 c144 A145 c146 r138)) rfl rfl (Nat.le_of_ble_eq_true rfl) rfl (fun w149 P33 e150 => ?_)
  have O5 := O5.chg e150 (Blk.qhR O5 O33.b (by decide))
  have O6 := O6.chg e150 (O6.qa6 O33.b (by decide))
  have O8 := O8.chg e150 (O8.qa6 O33.b (by decide))
  have O9 := O9.chg e150 (Blk.qhR O9 O33.b (by decide))
  have O36 := (O36.ext e142).chg e150 N36_33
  have O37 := O37.chg e150 N37_33
  have O38 := O38.chg e150 N38_33
  have hB := echg hB e150 L33
  have O33 := P33
  have O7 := (qeP.back O36 hA36 ho36 O33 O37 O38 rfl rfl O37.low O38.low (by decide) (by decide) (by decide) N36_37 N36_38)
  have N7_8 := qeF (qie hA36 (O8.qa6 O33.b (by decide))) N36_8 (N8_37).symm (N8_38).symm
  exact ⟨i106, i107, _, _, (fun k => G36_ k ∨ InB A143 k ∨ InB A145 k), rfl, H, hB, (by first | exact O9 | (simp only [bC, wC, List.length_set, hl103]; exact O9)), O7, (by first | rfl | assumption | omega | (simp; done) | (simp; omega) | (simp; assumption)), N7_8, O8, (by first | rfl | assumption | omega | (simp; done) | (simp; omega) | (simp; assumption)), O5, O6⟩
 rintro _ w58 ⟨i50, i51, xs52, xs55, F53, rfl, H, hB, O9, O7, hn54, N7_8, O8, hn56, O5, O6⟩
 have H := hKK169 _ H
 try dsimp only at H ⊢
 refine ⟨_, _, _, (O9.a 0), _, _, _, (O9.a 1), _, _, _, (O9.a 2), _, (O9.a 3), _, (O9.a 4), ?_⟩
 obtain ⟨hp156, H⟩ := H
 obtain ⟨r154, hr155, H⟩ := qad H
 refine (qhX (by first | (simp only [bC, wC, List.length_set, ← hn54, ← hn56]; done) | (simp; done)) (qbp.con hp156 hr155 O6.row O6.le O7.row O7.le O8.row O8.le)).mono ?_
 rintro _ w157 ⟨rfl, e158⟩
 have O5 := O5.ext e158
 have O6 := O6.ext e158
 have O7 := O7.ext e158
 have O8 := O8.ext e158
 have O9 := O9.ext e158
 have hB := qa5 hB e158
 refine ⟨r154, rfl, ?_⟩
 refine brc H (fun h H => ?_) fun h H => ?_
 ·refine stB O9 3 #[(sv A30 r25.Code.length c31), (sv A32 r25.Warps.length c33), (sv A34 r25.Memory.length c35), (iv 0), (iv i51)] (fun w159 P9 e160 => ?_)
  have O5_ := O5.chg e160 N5_9
  have O6_ := O6.chg e160 N6_9
  have O7_ := O7.chg e160 (O7.qda O9 (by decide) (by decide) (by decide))
  have O8_ := O8.chg e160 N8_9
  have O6 := O6_
  have O7 := O7_
  have O8 := O8_
  have hB := echg hB e160 L9
  have O9 := P9
  refine ⟨_, (O9.a 4), ?_⟩
  refine stB O9 4 #[(sv A30 r25.Code.length c31), (sv A32 r25.Warps.length c33), (sv A34 r25.Memory.length c35), (iv 0), (iv (wrap .i64 (i51 + 1)))] (fun w161 P9 e162 => ?_)
  have O5 := O5_.chg e162 N5_9
  have O6_ := O6.chg e162 N6_9
  have O7_ := O7.chg e162 (O7.qda O9 (by decide) (by decide) (by decide))
  have O8_ := O8.chg e162 N8_9
  have O7 := O7_
  have hB := echg hB e162 L9
  have O9 := P9
  refine ⟨_, _, _, (O9.a 0), _, _, _, (O9.a 1), _, _, _, (O9.a 2), _, (O9.a 3), _, (O9.a 4), ?_⟩
  refine stB O5 0 #[(sv A30 r25.Code.length c31), (sv A32 r25.Warps.length c33), (sv A34 r25.Memory.length c35), (iv 0), (iv (wrap .i64 (i51 + 1)))] (fun w163 P5 e164 => ?_)
  have O6 := O6_.chg e164 N6_5
  have O7 := O7.chg e164 (O7.qda O5 (by decide) (by decide) (by decide))
  have O8 := O8_.chg e164 N8_5
  have hB := echg hB e164 L5
  have O5 := P5
  refine ⟨_, _, _, (O5.a 0), _, _, _, (O5.a 1), _, _, _, (O5.a 2), _, (O5.a 3), _, (O5.a 4), ?_⟩
  cases hr.trans H.symm
  exact ⟨A30, c31, A32, c33, F53, A34, c35, (by first | rfl | (rw [hn54, hn56]; done) | (simp; done) | (simp; omega) | (simp [*]; done)), (by first | exact O6 | (simp only [bC, wC, List.length_set]; exact O6) | (rw [← hn54, ← hn56]; exact O6)), (by first | exact O7 | (simp only [bC, wC, List.length_set]; exact O7) | (rw [← hn54, ← hn56]; exact O7)), (by first | exact O8 | (simp only [bC, wC, List.length_set]; exact O8) | (rw [← hn54, ← hn56]; exact O8)), N7_8, hB⟩
 refine ⟨_, _, _, (O9.a 0), _, _, _, (O9.a 1), _, _, _, (O9.a 2), _, (O9.a 3), _, (O9.a 4), ?_⟩
 refine stB O5 0 #[(sv A30 r25.Code.length c31), (sv A32 r25.Warps.length c33), (sv A34 r25.Memory.length c35), (iv i50), (iv i51)] (fun w165 P5 e166 => ?_)
 have O6 := O6.chg e166 N6_5
 have O7 := O7.chg e166 (O7.qda O5 (by decide) (by decide) (by decide))
 have O8 := O8.chg e166 N8_5
 have hB := echg hB e166 L5
 have O5 := P5
 refine ⟨_, _, _, (O5.a 0), _, _, _, (O5.a 1), _, _, _, (O5.a 2), _, (O5.a 3), _, (O5.a 4), ?_⟩
 cases hr.trans H.symm
 exact ⟨A30, c31, A32, c33, F53, A34, c35, (by first | rfl | (rw [hn54, hn56]; done) | (simp; done) | (simp; omega) | (simp [*]; done)), (by first | exact O6 | (simp only [bC, wC, List.length_set]; exact O6) | (rw [← hn54, ← hn56]; exact O6)), (by first | exact O7 | (simp only [bC, wC, List.length_set]; exact O7) | (rw [← hn54, ← hn56]; exact O7)), (by first | exact O8 | (simp only [bC, wC, List.length_set]; exact O8) | (rw [← hn54, ← hn56]; exact O8)), N7_8, hB⟩
def qbM.vc (p0 : Addr) (x1 x2_0 x2_1 x2_2 x2_3 : Int) (w : World) (K : VK) : Prop :=
  newK w (.cells #[(iv x2_0), (iv x2_1), (iv x2_2), (iv x2_3)] 84) fun g21 w22 => ldS w22 ((p0.add 1).add 0) fun A23 n24 c25 => (idx x1 n24 A23 fun a26 => ldI w22 ((a26.add ((x1.toNat) * 3)).add 0) fun n27 => ldS w22 ((a26.add ((x1.toNat) * 3)).add 1) fun A28 n29 c30 => ldS w22 ((a26.add ((x1.toNat) * 3)).add 2) fun A31 n32 c33 => Cl 106 #[(.agg #[(iv n27), (sv A28 n29 c30), (sv A31 n32 c33)])] w22 fun v34 w35 => (∃ (n36 : Int), v34 = (iv n36) ∧ Cl 105 #[(iv n36)] w35 fun v37 w38 => (∃ (A39 : OA) (n40 c41 : Nat), v37 = (sv A39 n40 c41) ∧ qdA (σ := Int × Unit) (fun z42 w43 next44 => qa1 (decide (z42.1 < ((n40 : Nat) : Int))) ((idx z42.1 n40 A39 fun a45 => ldI w43 ((a45.add ((z42.1.toNat) * 1)).add 0) fun n46 => ldS w43 ((p0.add 1).add 0) fun A47 n48 c49 => (idx x1 n48 A47 fun a50 => ldI w43 ((a50.add ((x1.toNat) * 3)).add 0) fun n51 => ldS w43 ((a50.add ((x1.toNat) * 3)).add 1) fun A52 n53 c54 => ldS w43 ((a50.add ((x1.toNat) * 3)).add 2) fun A55 n56 c57 => Cl 107 #[(.agg #[(iv n51), (sv A52 n53 c54), (sv A55 n56 c57)]), (iv n46)] w43 fun v58 w59 => (∃ (A60 : OA) (n61 c62 : Nat), v58 = (sv A60 n61 c62) ∧ ldI w59 (((bx g21).add 0).add 0) fun n63 => qa1 (n63 == 13) ((∃ M64 : Nat → Prop, ldIM M64 w59 ((bx g21).add 1) 0 fun n65 => ldSM M64 w59 (p0.add 2) 0 fun A66 n67 c68 => ldIM M64 w59 ((bx g21).add 2) 0 fun n69 => (idx n69 n61 A60 fun a70 => ldIM M64 w59 (a70.add ((n69.toNat) * 1)) 0 fun n71 => ((32 : Int) ≠ 0 ∧ (idx (Int.tmod n71 32) n67 A66 fun a72 => ldIM M64 w59 (a72.add (((Int.tmod n71 32).toNat) * 1)) 0 fun n73 => (idx n65 n61 A60 fun a74 => qa7 (a74.add ((n65.toNat) * 1)) [(iv n73)] 0 w59.drew fun w75 => next44 ((wrap .i64 (z42.1 + 1)), ()) w75)))))) (qa1 (n63 == 14) ((∃ M76 : Nat → Prop, ldSM M76 w59 (p0.add 2) 0 fun A77 n78 c79 => ldIM M76 w59 ((bx g21).add 1) 0 fun n80 => (idx n80 n61 A60 fun a81 => ldIM M76 w59 (a81.add ((n80.toNat) * 1)) 0 fun n82 => ((32 : Int) ≠ 0 ∧ ldIM M76 w59 ((bx g21).add 2) 0 fun n83 => (idx n83 n61 A60 fun a84 => ldIM M76 w59 (a84.add ((n83.toNat) * 1)) 0 fun n85 => (idx (Int.tmod n82 32) n78 A77 fun a86 => qa7 (a86.add (((Int.tmod n82 32).toNat) * 1)) [(iv n85)] 0 w59.drew fun w87 => next44 ((wrap .i64 (z42.1 + 1)), ()) w87)))))) (qa1 (n63 == 15) (ldI w59 (((bx g21).add 1).add 0) fun n88 => (idx n88 n61 A60 fun a89 => ldI w59 ((a89.add ((n88.toNat) * 1)).add 0) fun n90 => ((32 : Int) ≠ 0 ∧ (∃ M91 : Nat → Prop, ldSM M91 w59 (p0.add 2) 0 fun A92 n93 c94 => ldSM M91 w59 (p0.add 2) 0 fun A95 n96 c97 => (idx (Int.tmod n90 32) n96 A95 fun a98 => ldIM M91 w59 (a98.add (((Int.tmod n90 32).toNat) * 1)) 0 fun n99 => ldIM M91 w59 ((bx g21).add 2) 0 fun n100 => (idx n100 n61 A60 fun a101 => ldIM M91 w59 (a101.add ((n100.toNat) * 1)) 0 fun n102 => Cl 173 #[(iv n99), (iv n102)] w59.drew fun v103 w104 => (∃ (n105 : Int), v103 = (iv n105) ∧ qac M91 w59 w104 ∧ (idx (Int.tmod n90 32) n93 A92 fun a106 => qa7 (a106.add (((Int.tmod n90 32).toNat) * 1)) [(iv n105)] 0 w104 fun w107 => next44 ((wrap .i64 (z42.1 + 1)), ()) w107)))))))) (next44 ((wrap .i64 (z42.1 + 1)), ()) w59))))))) (K (.tuple #[]) w43)) (0, ()) w38)))

def qbM.ann : Ann := (.seq .l (.seq .l (.one (.loop [(20, .int .i64)] (.seq .l (.seq (.two .l .l) (.seq (.one (.seq .l (.seq .l (.seq .l (.one (.seq .l (.two .l (.seq .l (.two .l (.seq .l (.two (.seq .l .l) .l))))))))))) .l)))))))

theorem qbM.con {s0 r : D.Block} {g1_ c0_0 c0_1 c0_2 : Nat} {A0_0 A0_1 A0_2 : OA} {F0_1 : Nat → Prop} {x1 : Int} {s2 : D.Ins} {w : World} (hp : M.qeL s0 x1 s2) (hr : r = M.qbM s0 x1 s2) (O1 : Blk w g1_ 33 (bC A0_0 c0_0 A0_1 c0_1 A0_2 c0_2 s0)) (R0_0 : Row el84 w A0_0 s0.Code) (hc0_0 : s0.Code.length ≤ c0_0) (O3 : OwnW 52 el91 el3 w 0 F0_1 A0_1 c0_1 s0.Warps) (O4 : Own el3 w 0 A0_2 c0_2 s0.Memory) (N3_4 : Dis (InW A0_1 F0_1) (InB A0_2)) (D0_0 : s0.Code ≠ [] → ∀ g, InB A0_0 g → ¬ (fun k_ => InW A0_1 F0_1 k_ ∨ InB A0_2 k_ ∨ k_ = g1_) g) :
    Cl 131 #[(.pointer (some (bx g1_))), (iv x1), (.agg (iC s2))] w (fun v_ w_ => ∃ (A0_ : OA) (c0_ : Nat) (F0_ : Nat → Prop), v_ = (.tuple #[]) ∧ Blk w_ g1_ 33 #[(sv A0_0 r.Code.length c0_0), (sv A0_ r.Warps.length c0_), (sv A0_2 s0.Memory.length c0_2), (iv r.Waiting), (iv r.Phase)] ∧ r.Code = s0.Code ∧ OwnW 52 el91 el3 w_ 0 F0_ A0_ c0_ r.Warps ∧ MovW w (InW A0_1 F0_1) (InW A0_ F0_) ∧ Own el3 w_ 0 A0_2 c0_2 r.Memory ∧ r.Memory.length = s0.Memory.length ∧ Chg (fun k_ => InW A0_1 F0_1 k_ ∨ InB A0_2 k_ ∨ k_ = g1_) w w_) := by
 have H := wp.qbM.math s0 x1 s2 hp
 refine begK mixed Tryz.f131 ann (vc (bx g1_) x1 s2.Op s2.A s2.B s2.C) ?_
 unfold vc
 unfold wp.qbM at H
 have LM3 := MovW.refl w (InW A0_1 F0_1)
 refine qax (fun g5_ w21 L5 O5 e22 => ?_)
 have N4_5 := O4.qag L5
 have O1 := O1.ext e22
 have O3 := O3.ext e22
 refine ⟨_, _, _, (O1.a 1), ?_⟩
 obtain ⟨⟨h0_23, h1_24⟩, H⟩ := H
 obtain ⟨g6_, o6_, z6_, A7_, c7_, A8_, c8_, R6_, G9_, hA9, ha9, ho9, O6, O7, O8, O9, hF9, N9_7, N9_8, N9_6, L6⟩ := OwnW.focus O3 h0_23 h1_24 (by decide) (by decide) (by decide)
 have N9_4 := qdW N3_4 (qgb hF9)
 have N8_4 := qiJ (qdW N3_4 (qjV hF9))
 refine ⟨h0_23, h1_24, (⟨g6_, z6_, none⟩ : Addr), hA9, ?_⟩
 try dsimp only
 try rw [ha9]
 refine ⟨_, (O6.a 0), _, _, _, (O6.a 1), _, _, _, (O6.a 2), ?_⟩
 obtain ⟨hp27, H⟩ := H
 obtain ⟨r25, hr26, H⟩ := qad H
 refine (cllA (qbh.con hp27 hr26 O7.row O7.le O8.row O8.le)).mono ?_
 rintro _ w28 ⟨rfl, e29⟩
 have O4 := (O4.ext e22).ext e29
 have O6 := O6.ext e29
 have O7 := O7.ext e29
 have O8 := O8.ext e29
 have O9 := O9.ext e29
 have hB := ((Chg.refl (fun k_ => InW A0_1 F0_1 k_ ∨ InB A0_2 k_ ∨ k_ = g1_) w).then e22).then e29
 refine ⟨r25, rfl, ?_⟩
 obtain ⟨r30, hr31, H⟩ := qad H
 refine (qcj.con hr31 ).mono ?_
 rintro _ w33 ⟨A35, c36, rfl, P10, e34⟩
 have N4_10 := aN O4 P10
 have N10_6 := P10.qa8 O6.lt
 have N7_10 := aN O7 P10
 have N8_10 := aN O8 P10
 have N9_10 := O9.qf0 P10 (Nat.le_refl _)
 have O1 := (O1.ext e29).ext e34
 have O4 := O4.ext e34
 have O5 := (O5.ext e29).ext e34
 have O6 := O6.ext e34
 have O7 := O7.ext e34
 have O8 := O8.ext e34
 have O9 := O9.ext e34
 have O10 := P10.mono hB.size
 have hB := hB.then e34
 refine ⟨A35, r30.length, c36, rfl, ?_⟩
 have O3 := ((qeP.back O9 hA9 ho9 O6 O7 O8 (by first | rfl | (simp only [bC, wC, List.length_set]; done) | (simp; done) | (simp; omega)) (by first | rfl | (simp only [bC, wC, List.length_set]; done) | (simp; done) | (simp; omega)) (fun _ _ => Nat.zero_le _) (fun _ _ => Nat.zero_le _) (by decide) (by decide) (by decide) N9_7 N9_8).qlQ hF9).unset
 have N3_4 := qdW (qeF (qie hA9 (O4.qa6 O6.b (by decide))) N9_4 (Own.qaq O7 O4 (by decide)) N8_4) (qf4 hF9)
 have N3_10 := qdW (qeF (qie hA9 N10_6) N9_10 N7_10 N8_10) (qf4 hF9)
 obtain ⟨J148, ⟨m273, hJ272⟩, hS149⟩ := H
 refine ⟨fun m_ z_ w_ => ∃ (i141 : Int) (xs142 : List D.Warp) (xs145 : List Int) (F143 : Nat → Prop), z_ = (i141, ()) ∧ J148 m_ (i141, xs142, xs145, ()) ∧ Chg (fun k_ => InW A0_1 F0_1 k_ ∨ InB A0_2 k_ ∨ k_ = g1_) w w_ ∧ OwnW 52 el91 el3 w_ 0 F143 A0_1 c0_1 xs142 ∧ s0.Warps.length = xs142.length ∧ MovW w (InW A0_1 F0_1) (InW A0_1 F143) ∧ Dis (InW A0_1 F143) (InB A0_2) ∧ Dis (InW A0_1 F143) (InB A35) ∧ Own el3 w_ 0 A0_2 c0_2 xs145 ∧ s0.Memory.length = xs145.length ∧ Blk w_ g1_ 33 (bC A0_0 c0_0 A0_1 c0_1 A0_2 c0_2 s0) ∧ Blk w_ g5_ 84 (iC s2) ∧ Own el3 w_ w.heap.size A35 c36 r30, ⟨m273, 0, s0.Warps, s0.Memory, F0_1, rfl, hJ272, hB, O3, (by first | rfl | assumption | omega | (simp; done) | (simp; omega) | (simp; assumption)), LM3, N3_4, N3_10, O4, (by first | rfl | assumption | omega | (simp; done) | (simp; omega) | (simp; assumption)), O1, O5, O10⟩, ?_⟩
 rintro m147 _ w151 ⟨i141, xs142, xs145, F143, rfl, hJ274, hB, O3, hn144, LM3, N3_4, N3_10, O4, hn146, O1, O5, O10⟩
 have H := hS149 m147 _ hJ274
 clear hS149 hJ274
 try dsimp only at H ⊢
 refine brc H (fun h H => ?_) fun h H => ?_
 ·obtain ⟨⟨h0_155, h1_156⟩, H⟩ := H
  obtain ⟨a153, ha154, hat152⟩ := Row.at O10.row h0_155 h1_156
  refine ⟨h0_155, h1_156, a153, ha154, _, (hat152 0 _ rfl), _, _, _, (O1.a 1), ?_⟩
  obtain ⟨⟨h0_157, h1_158⟩, H⟩ := H
  obtain ⟨g21_, o21_, z21_, A22_, c22_, A23_, c23_, R21_, G24_, hA24, ha24, ho24, O21, O22, O23, O24, hF24, N24_22, N24_23, N24_21, L21⟩ := OwnW.focus O3 h0_157 h1_158 (by decide) (by decide) (by decide)
  have LM23 := LM3.sub (qjV hF24)
  have N24_4 := qdW N3_4 (qgb hF24)
  have N23_4 := qiJ (qdW N3_4 (qjV hF24))
  have N24_10 := qdW N3_10 (qgb hF24)
  have N23_10 := qiJ (qdW N3_10 (qjV hF24))
  refine ⟨h0_157, (by first | exact h1_158 | omega | (simp at h1_158 ⊢; omega)), (⟨g21_, z21_, none⟩ : Addr), hA24, ?_⟩
  try dsimp only
  try rw [ha24]
  refine ⟨_, (O21.a 0), _, _, _, (O21.a 1), _, _, _, (O21.a 2), ?_⟩
  obtain ⟨hp159, H⟩ := H
  refine (cllA (qbu.con hp159 O22.row O22.le O23.row O23.le)).mono ?_
  rintro _ w160 ⟨rfl, e161⟩
  have O1 := O1.ext e161
  have O4 := O4.ext e161
  have O5 := O5.ext e161
  have O10 := O10.ext e161
  have O21 := O21.ext e161
  have O22 := O22.ext e161
  have O23 := O23.ext e161
  have O24 := O24.ext e161
  have hB := hB.then e161
  have hv25_ : ((wrap .i64 ((rd r30 i141) * 4)).toNat) ≤ (List.take ((wrap .i64 ((wrap .i64 ((rd r30 i141) + 1)) * 4)).toNat) ((rd xs142 x1).Regs)).length := qbu.cut hp159
  have O25 := (O23.take ((wrap .i64 ((wrap .i64 ((rd r30 i141) + 1)) * 4)).toNat)).drop (l := ((wrap .i64 ((rd r30 i141) * 4)).toNat)) hv25_
  refine ⟨(cutA c23_ ((wrap .i64 ((rd r30 i141) * 4)).toNat) A23_ 1), (List.drop ((wrap .i64 ((rd r30 i141) * 4)).toNat) (List.take ((wrap .i64 ((wrap .i64 ((rd r30 i141) + 1)) * 4)).toNat) ((rd xs142 x1).Regs))).length, (c23_ - ((wrap .i64 ((rd r30 i141) * 4)).toNat)), rfl, _, (O5.a 0), ?_⟩
  refine brc H (fun h H => ?_) fun h H => ?_
  ·refine ⟨(fun _ => False), _, noM (O5.a 1), _, _, _, noM (O1.a 2), _, noM (O5.a 2), ?_⟩
   obtain ⟨⟨h0_166, h1_167⟩, H⟩ := H
   obtain ⟨a164, ha165, hat163⟩ := Row.at O25.row h0_166 h1_167
   refine ⟨h0_166, h1_167, a164, ha165, _, ⟨(fun h_ => h_), (hat163 0 _ rfl)⟩, by decide, ?_⟩
   obtain ⟨⟨h0_172, h1_173⟩, H⟩ := H
   obtain ⟨a170, ha171, hat169⟩ := Row.at O4.row h0_172 h1_173
   refine ⟨h0_172, (by first | exact h1_173 | omega | (simp at h1_173 ⊢; omega)), a170, ha171, _, ⟨(fun h_ => h_), (hat169 0 _ rfl)⟩, ?_⟩
   obtain ⟨⟨h0_177, h1_178⟩, H⟩ := H
   obtain ⟨a175, ha176, hat174⟩ := Row.at O25.row h0_177 h1_178
   refine ⟨h0_177, h1_178, a175, ha176, ?_⟩
   have O1 := O1.ext (Ext.drew _)
   have O5 := O5.ext (Ext.drew _)
   have O21 := O21.ext (Ext.drew _)
   have O22 := O22.ext (Ext.drew _)
   have O23 := O23.ext (Ext.drew _)
   refine Own.qga (hi := ((wrap .i64 ((wrap .i64 ((rd r30 i141) + 1)) * 4)).toNat)) O23 ha176 h0_177 h1_178 0 [(iv (rd xs145 (Int.tmod (rd (List.drop ((wrap .i64 ((rd r30 i141) * 4)).toNat) (List.take ((wrap .i64 ((wrap .i64 ((rd r30 i141) + 1)) * 4)).toNat) ((rd xs142 x1).Regs))) s2.B) 32)))] (rd xs145 (Int.tmod (rd (List.drop ((wrap .i64 ((rd r30 i141) * 4)).toNat) (List.take ((wrap .i64 ((wrap .i64 ((rd r30 i141) + 1)) * 4)).toNat) ((rd xs142 x1).Regs))) s2.B) 32)) rfl (Nat.le_of_ble_eq_true rfl) rfl (fun w179 P23 e180 hb181 => ?_)
   obtain ⟨b182, hb183, hbe184⟩ := qgR ha176
   rw [← hbe184] at e180 hb181
   have O1 := O1.chg e180 (fun h_ => ((O23.qa6 O1 (by decide))) _ hb183 h_.symm)
   have O4 := (O4.ext (Ext.drew _)).chg e180 (((N23_4).symm).left hb183)
   have O5 := O5.chg e180 (fun h_ => ((O23.qa6 O5 (by decide))) _ hb183 h_.symm)
   have O10 := (O10.ext (Ext.drew _)).chg e180 (((N23_10).symm).left hb183)
   have O21 := O21.chg e180 (fun h_ => ((O23.qa6 O21.b (by decide))) _ hb183 h_.symm)
   have O22 := O22.chg e180 (((Own.qaq O22 O23 (by decide))).left hb183)
   have O24 := (O24.ext (Ext.drew _)).chg e180 (fun h_ => N24_23 _ h_ ⟨_, hb183, rfl⟩)
   have hB := (hB.then (Ext.drew _)).chgb e180 ((LM23 _ ⟨_, hb183, rfl⟩).elim (fun h4_ => Or.inr (Or.inl h4_)) Or.inl)
   have O23 := P23
   have O3 := (qeP.back O24 hA24 ho24 O21 O22 O23 (by first | rfl | (simp only [bC, wC, List.length_set]; done) | (simp; done) | (simp; omega)) (by first | rfl | (simp only [bC, wC, List.length_set]; done) | (simp; done) | (simp; omega)) (fun _ _ => Nat.zero_le _) (fun _ _ => Nat.zero_le _) (by decide) (by decide) (by decide) N24_22 N24_23).qlQ hF24
   have N3_4 := qdW (qeF (qie hA24 (O4.qa6 O21.b (by decide))) N24_4 (Own.qaq O22 O4 (by decide)) N23_4) (qf4 hF24)
   have N3_10 := qdW (qeF (qie hA24 (O10.qa6 O21.b (by decide))) N24_10 (Own.qaq O22 O10 (by decide)) N23_10) (qf4 hF24)
   obtain ⟨m185, hm186, hJ187⟩ := H
   exact ⟨m185, hm186, _, _, _, F143, rfl, hJ187, hB, O3, (by first | rfl | assumption | omega | (simp; done) | (simp; omega) | (simp; assumption)), LM3, N3_4, N3_10, O4, (by first | rfl | assumption | omega | (simp; done) | (simp; omega) | (simp; assumption)), (by first | exact O1 | (simp only [bC, wC, List.length_set, ← hn146]; exact O1)), O5, O10⟩
  refine brc H (fun h H => ?_) fun h H => ?_
  ·refine ⟨(fun _ => False), _, _, _, noM (O1.a 2), _, noM (O5.a 1), ?_⟩
   obtain ⟨⟨h0_192, h1_193⟩, H⟩ := H
   obtain ⟨a190, ha191, hat189⟩ := Row.at O25.row h0_192 h1_193
   refine ⟨h0_192, h1_193, a190, ha191, _, ⟨(fun h_ => h_), (hat189 0 _ rfl)⟩, by decide, _, noM (O5.a 2), ?_⟩
   obtain ⟨⟨h0_198, h1_199⟩, H⟩ := H
   obtain ⟨a196, ha197, hat195⟩ := Row.at O25.row h0_198 h1_199
   refine ⟨h0_198, h1_199, a196, ha197, _, ⟨(fun h_ => h_), (hat195 0 _ rfl)⟩, ?_⟩
   obtain ⟨⟨h0_203, h1_204⟩, H⟩ := H
   obtain ⟨a201, ha202, hat200⟩ := Row.at O4.row h0_203 h1_204
   refine ⟨h0_203, (by first | exact h1_204 | omega | (simp at h1_204 ⊢; omega)), a201, ha202, ?_⟩
   have O1 := O1.ext (Ext.drew _)
   have O4 := O4.ext (Ext.drew _)
   have O21 := O21.ext (Ext.drew _)
   have O22 := O22.ext (Ext.drew _)
   refine Own.stA O4 ha202 h0_203 h1_204 0 (rd (List.drop ((wrap .i64 ((rd r30 i141) * 4)).toNat) (List.take ((wrap .i64 ((wrap .i64 ((rd r30 i141) + 1)) * 4)).toNat) ((rd xs142 x1).Regs))) s2.B) (fun w205 P4 e206 hb207 => ?_)
   have O1 := O1.chg e206 (fun h_ => ((O4.qa6 O1 (by decide))) _ ha202 h_.symm)
   have O5 := (O5.ext (Ext.drew _)).chg e206 (fun h_ => (N4_5) _ ha202 h_.symm)
   have O10 := (O10.ext (Ext.drew _)).chg e206 (((N4_10).symm).left ha202)
   have O21 := O21.chg e206 (fun h_ => ((O4.qa6 O21.b (by decide))) _ ha202 h_.symm)
   have O22 := O22.chg e206 (((Own.qaq O22 O4 (by decide))).left ha202)
   have O23 := (O23.ext (Ext.drew _)).chg e206 ((N23_4).left ha202)
   have O24 := (O24.ext (Ext.drew _)).chg e206 (fun h_ => N24_4 _ h_ ⟨_, ha202, rfl⟩)
   have hB := (hB.then (Ext.drew _)).chgb e206 (Or.inr (Or.inr (Or.inl ⟨_, ha202, rfl⟩)))
   have O4 := P4
   have O3 := ((qeP.back O24 hA24 ho24 O21 O22 O23 (by first | rfl | (simp only [bC, wC, List.length_set]; done) | (simp; done) | (simp; omega)) (by first | rfl | (simp only [bC, wC, List.length_set]; done) | (simp; done) | (simp; omega)) (fun _ _ => Nat.zero_le _) (fun _ _ => Nat.zero_le _) (by decide) (by decide) (by decide) N24_22 N24_23).qlQ hF24).unset
   have N3_4 := qdW (qeF (qie hA24 (O4.qa6 O21.b (by decide))) N24_4 (Own.qaq O22 O4 (by decide)) N23_4) (qf4 hF24)
   have N3_10 := qdW (qeF (qie hA24 (O10.qa6 O21.b (by decide))) N24_10 (Own.qaq O22 O10 (by decide)) N23_10) (qf4 hF24)
   obtain ⟨m208, hm209, hJ210⟩ := H
   exact ⟨m208, hm209, _, _, _, F143, rfl, hJ210, hB, O3, (by first | rfl | assumption | omega | (simp; done) | (simp; omega) | (simp; assumption)), LM3, N3_4, N3_10, O4, (by first | rfl | assumption | omega | (simp; done) | (simp; omega) | (simp; assumption)), (by first | exact O1 | (simp only [bC, wC, List.length_set, ← hn146]; exact O1)), O5, O10⟩
  refine brc H (fun h H => ?_) fun h H => ?_
  ·refine ⟨_, (O5.a 1), ?_⟩
   obtain ⟨⟨h0_214, h1_215⟩, H⟩ := H
   obtain ⟨a212, ha213, hat211⟩ := Row.at O25.row h0_214 h1_215
   refine ⟨h0_214, h1_215, a212, ha213, _, (hat211 0 _ rfl), by decide, (fun _ => False), ?_⟩
   have hBz := hB
   have Z4 := O4
   refine ⟨_, _, _, noM (O1.a 2), _, _, _, noM (O1.a 2), ?_⟩
   obtain ⟨⟨h0_241, h1_242⟩, H⟩ := H
   obtain ⟨a239, ha240, hat238⟩ := Row.at O4.row h0_241 h1_242
   refine ⟨h0_241, (by first | exact h1_242 | omega | (simp at h1_242 ⊢; omega)), a239, ha240, _, ⟨(fun h_ => h_), (hat238 0 _ rfl)⟩, _, noM (O5.a 2), ?_⟩
   obtain ⟨⟨h0_246, h1_247⟩, H⟩ := H
   obtain ⟨a244, ha245, hat243⟩ := Row.at O25.row h0_246 h1_247
   refine ⟨h0_246, h1_247, a244, ha245, _, ⟨(fun h_ => h_), (hat243 0 _ rfl)⟩, ?_⟩
   have O1 := O1.ext (Ext.drew _)
   have O4 := O4.ext (Ext.drew _)
   have O5 := O5.ext (Ext.drew _)
   have O10 := O10.ext (Ext.drew _)
   have O21 := O21.ext (Ext.drew _)
   have O22 := O22.ext (Ext.drew _)
   have O23 := O23.ext (Ext.drew _)
   have O24 := O24.ext (Ext.drew _)
   have hB := hB.then (Ext.drew _)
   have hS217 := (Chg.refl (fun _ => False) w160).then (Ext.drew _)
   obtain ⟨r248, hr249, H⟩ := qad H
   refine (qbQ.con hr249 ).mono ?_
   rintro _ w251 ⟨rfl, e252⟩
   have O1 := O1.ext e252
   have O4 := O4.ext e252
   have O21 := O21.ext e252
   have O22 := O22.ext e252
   have hS217 := hS217.then e252
   refine ⟨r248, rfl, qa2 hS217, ?_⟩
   obtain ⟨⟨h0_256, h1_257⟩, H⟩ := H
   obtain ⟨a254, ha255, hat253⟩ := Row.at Z4.row h0_256 h1_257
   refine ⟨h0_256, (by first | exact h1_257 | omega | (simp at h1_257 ⊢; omega)), a254, ha255, ?_⟩
   refine Own.stA O4 ha255 h0_256 h1_257 0 r248 (fun w258 P4 e259 hb260 => ?_)
   have O1 := O1.chg e259 (fun h_ => ((O4.qa6 O1 (by decide))) _ ha255 h_.symm)
   have O5 := (O5.ext e252).chg e259 (fun h_ => (N4_5) _ ha255 h_.symm)
   have O10 := (O10.ext e252).chg e259 (((N4_10).symm).left ha255)
   have O21 := O21.chg e259 (fun h_ => ((O4.qa6 O21.b (by decide))) _ ha255 h_.symm)
   have O22 := O22.chg e259 (((Own.qaq O22 O4 (by decide))).left ha255)
   have O23 := (O23.ext e252).chg e259 ((N23_4).left ha255)
   have O24 := (O24.ext e252).chg e259 (fun h_ => N24_4 _ h_ ⟨_, ha255, rfl⟩)
   have hB := (hB.then e252).chgb e259 (Or.inr (Or.inr (Or.inl ⟨_, ha255, rfl⟩)))
   have O4 := P4
   have O3 := ((qeP.back O24 hA24 ho24 O21 O22 O23 (by first | rfl | (simp only [bC, wC, List.length_set]; done) | (simp; done) | (simp; omega)) (by first | rfl | (simp only [bC, wC, List.length_set]; done) | (simp; done) | (simp; omega)) (fun _ _ => Nat.zero_le _) (fun _ _ => Nat.zero_le _) (by decide) (by decide) (by decide) N24_22 N24_23).qlQ hF24).unset
   have N3_4 := qdW (qeF (qie hA24 (O4.qa6 O21.b (by decide))) N24_4 (Own.qaq O22 O4 (by decide)) N23_4) (qf4 hF24)
   have N3_10 := qdW (qeF (qie hA24 (O10.qa6 O21.b (by decide))) N24_10 (Own.qaq O22 O10 (by decide)) N23_10) (qf4 hF24)
   obtain ⟨m261, hm262, hJ263⟩ := H
   exact ⟨m261, hm262, _, _, _, F143, rfl, hJ263, hB, O3, (by first | rfl | assumption | omega | (simp; done) | (simp; omega) | (simp; assumption)), LM3, N3_4, N3_10, O4, (by first | rfl | assumption | omega | (simp; done) | (simp; omega) | (simp; assumption)), (by first | exact O1 | (simp only [bC, wC, List.length_set, ← hn146]; exact O1)), O5, O10⟩
  have O3 := ((qeP.back O24 hA24 ho24 O21 O22 O23 (by first | rfl | (simp only [bC, wC, List.length_set]; done) | (simp; done) | (simp; omega)) (by first | rfl | (simp only [bC, wC, List.length_set]; done) | (simp; done) | (simp; omega)) (fun _ _ => Nat.zero_le _) (fun _ _ => Nat.zero_le _) (by decide) (by decide) (by decide) N24_22 N24_23).qlQ hF24).unset
  have N3_4 := qdW (qeF (qie hA24 (O4.qa6 O21.b (by decide))) N24_4 (Own.qaq O22 O4 (by decide)) N23_4) (qf4 hF24)
  have N3_10 := qdW (qeF (qie hA24 (O10.qa6 O21.b (by decide))) N24_10 (Own.qaq O22 O10 (by decide)) N23_10) (qf4 hF24)
  obtain ⟨m264, hm265, hJ266⟩ := H
  exact ⟨m264, hm265, _, _, _, F143, rfl, hJ266, hB, O3, (by first | rfl | assumption | omega | (simp; done) | (simp; omega) | (simp; assumption)), LM3, N3_4, N3_10, O4, (by first | rfl | assumption | omega | (simp; done) | (simp; omega) | (simp; assumption)), (by first | exact O1 | (simp only [bC, wC, List.length_set, ← hn146]; exact O1)), O5, O10⟩
 cases hr.trans H.symm
 exact ⟨A0_1, c0_1, F143, rfl, (by first | exact O1 | (simp only [bC, wC, List.length_set, ← hn144, ← hn146]; exact O1)), rfl, (O3.mono (Nat.zero_le _)), LM3, (by first | exact O4 | (simp only [bC, wC, List.length_set, ← hn144, ← hn146]; exact O4)), (by first | (simp only [bC, wC, List.length_set]; done) | (simp only [bC, wC, List.length_set, ← hn146]; done) | (simp; done) | (simp; omega) | omega), hB⟩
def qbo.vc (p0 : Addr) (x1 : Int) (w : World) (K : VK) : Prop :=
  ldS w (p0.add 0) fun A21 n22 c23 => ldS w (p0.add 1) fun A24 n25 c26 => ldS w (p0.add 2) fun A27 n28 c29 => ldI w (p0.add 3) fun n30 => ldI w (p0.add 4) fun n31 => Cl 68 #[(.agg (vB A21 n22 c23 A24 n25 c26 A27 n28 c29 n30 n31)), (iv x1)] w fun v32 w33 => (∃ u34 : Value, (∃ (n35 : Int), True ∧ ∃ (n36 : Int), True ∧ ∃ (n37 : Int), True ∧ ∃ (n38 : Int), True ∧ u34 = (.agg #[(iv n35), (iv n36), (iv n37), (iv n38)]) ∧ ∃ u39 : Value, (∃ (b40 : Bool), u39 = (.bool b40) ∧ v32 = (.tuple #[(.agg #[(iv n35), (iv n36), (iv n37), (iv n38)]), (.bool b40)]) ∧ newK w33 (.cells #[(iv 0), (iv 0), (iv 0), (iv 0)] 84) fun g41 w42 => qa7 (bx g41) [(iv n35), (iv n36), (iv n37), (iv n38)] 0 w42 fun w43 => qfL (σ := Unit) (fun J44 => ldI w43 ((bx g41).add 0) fun n45 => ldI w43 ((bx g41).add 1) fun n46 => ldI w43 ((bx g41).add 2) fun n47 => ldI w43 ((bx g41).add 3) fun n48 => Cl 121 #[(.agg #[(iv n45), (iv n46), (iv n47), (iv n48)])] w43 fun v49 w50 => (∃ (b51 : Bool), v49 = (.bool b51) ∧ qa1 b51 ((∃ M52 : Nat → Prop, ldSM M52 w50 (p0.add 1) 0 fun A53 n54 c55 => (idx x1 n54 A53 fun a56 => ldSM M52 w50 (p0.add 0) 0 fun A57 n58 c59 => Cl 130 #[(.pointer (some (a56.add ((x1.toNat) * 3)))), (sv A57 n58 c59)] w50.drew fun v60 w61 => (∃ (b62 : Bool), v60 = (.bool b62) ∧ J44 () w61)))) (qfL (σ := Unit) (fun J63 => ldI w50 (((bx g41).add 0).add 0) fun n64 => qa1 (n64 == 16) (((0 : Int) ≤ x1 ∧ ((∃ (n65 : Int), w50.drew.cell? ((p0.add 3).add 0) = some (iv n65) ∧ ((qa7 (p0.add 3) [(iv (qgS .i64 n65 (wrap .i64 (1 * 2 ^ (min (x1.toNat) (IntKind.bits .i64))))))] 0 w50.drew fun w66 => J63 () w66) ∧ True)) ∧ True))) (ldI w50 ((bx g41).add 0) fun n67 => ldI w50 ((bx g41).add 1) fun n68 => ldI w50 ((bx g41).add 2) fun n69 => ldI w50 ((bx g41).add 3) fun n70 => Cl 131 #[(.pointer (some p0)), (iv x1), (.agg #[(iv n67), (iv n68), (iv n69), (iv n70)])] w50 fun v71 w72 => (v71 = (.tuple #[]) ∧ J63 () w72))) fun z73 w74 => ldS w74 ((p0.add 1).add 0) fun A75 n76 c77 => (idx x1 n76 A75 fun a78 => ldS w74 (((a78.add ((x1.toNat) * 3)).add 1).add 0) fun A79 n80 c81 => (idx (wrap .i64 (((n80 : Nat) : Int) - 1)) n80 A79 fun a82 => ldI w74 (((a82.add (((wrap .i64 (((n80 : Nat) : Int) - 1)).toNat) * 3)).add 0).add 0) fun n83 => (idx (wrap .i64 (((n80 : Nat) : Int) - 1)) n80 A79 fun a84 => qa7 ((a84.add (((wrap .i64 (((n80 : Nat) : Int) - 1)).toNat) * 3)).add 0) [(iv (wrap .i64 (n83 + 1)))] 0 w74 fun w85 => (∃ M86 : Nat → Prop, ldSM M86 w85 (p0.add 1) 0 fun A87 n88 c89 => (idx x1 n88 A87 fun a90 => ldSM M86 w85 (p0.add 0) 0 fun A91 n92 c93 => Cl 132 #[(.pointer (some (a90.add ((x1.toNat) * 3)))), (iv ((n92 : Nat) : Int))] w85.drew fun v94 w95 => (v94 = (.tuple #[]) ∧ J44 () w95))))))))) fun z96 w97 => ldI w97 ((p0.add 3).add 0) fun n98 => qa1 (n98 == 0) (K (.bool true) w97) (ldS w97 ((p0.add 1).add 0) fun A99 n100 c101 => qdA (σ := Int × Unit) (fun z102 w103 next104 => qa1 (decide (z102.1 < ((n100 : Nat) : Int))) ((idx z102.1 n100 A99 fun a105 => ldI w103 ((a105.add ((z102.1.toNat) * 3)).add 0) fun n106 => ldS w103 ((a105.add ((z102.1.toNat) * 3)).add 1) fun A107 n108 c109 => ldS w103 ((a105.add ((z102.1.toNat) * 3)).add 2) fun A110 n111 c112 => newK w103 (.cells #[(iv 0), (sv none 0 0), (sv none 0 0)] 52) fun g113 w114 => qa7 (bx g113) [(iv n106), (sv A107 n108 c109), (sv A110 n111 c112)] 0 w114 fun w115 => ldS w115 (p0.add 0) fun A116 n117 c118 => ldS w115 (p0.add 1) fun A119 n120 c121 => ldS w115 (p0.add 2) fun A122 n123 c124 => ldI w115 (p0.add 3) fun n125 => ldI w115 (p0.add 4) fun n126 => Cl 65 #[(.agg (vB A116 n117 c118 A119 n120 c121 A122 n123 c124 n125 n126)), (iv z102.1)] w115 fun v127 w128 => (∃ (b129 : Bool), v127 = (.bool b129) ∧ qa1 (!b129) (ldS w128 (((bx g113).add 1).add 0) fun A130 n131 c132 => qa1 (decide (((n131 : Nat) : Int) > 0)) (K (.bool true) w128) (next104 ((wrap .i64 (z102.1 + 1)), ()) w128)) (next104 ((wrap .i64 (z102.1 + 1)), ()) w128)))) (qa7 (p0.add 3) [(iv 0)] 0 w103 fun w133 => ldI w133 ((p0.add 4).add 0) fun n134 => qa7 (p0.add 4) [(iv (wrap .i64 (n134 + 1)))] 0 w133 fun w135 => ldI w135 ((p0.add 4).add 0) fun n136 => K (.bool (decide (n136 ≤ 100000))) w135)) (0, ()) w97))))

def qbo.ann : Ann := (.seq .l (.seq .l (.cut [] (.seq .l (.two .l (.cut [] (.seq .l (.two .each .l)) (.seq .l (.seq .l .l))))) (.seq (.seq .l (.two (.seq .l .l) .l)) (.seq (.seq .l (.one (.loop [(87, .int .i64)] (.seq .l (.seq (.two .l .l) (.seq (.one (.seq .l (.seq .l (.two (.seq .l .l) .l)))) .l)))))) (.seq .l (.seq .l (.seq .l .l))))))))

theorem qbo.con {s0 : D.Block} {g1_ c0_0 c0_1 c0_2 : Nat} {A0_0 A0_1 A0_2 : OA} {F0_1 : Nat → Prop} {x1 : Int} {r : Bool × D.Block} {w : World} (hp : M.qfl s0 x1) (hr : r = M.qbo s0 x1) (O1 : Blk w g1_ 33 (bC A0_0 c0_0 A0_1 c0_1 A0_2 c0_2 s0)) (R0_0 : Row el84 w A0_0 s0.Code) (hc0_0 : s0.Code.length ≤ c0_0) (O3 : OwnW 52 el91 el3 w 0 F0_1 A0_1 c0_1 s0.Warps) (O4 : Own el3 w 0 A0_2 c0_2 s0.Memory) (N3_4 : Dis (InW A0_1 F0_1) (InB A0_2)) (D0_0 : s0.Code ≠ [] → ∀ g, InB A0_0 g → ¬ (fun k_ => InW A0_1 F0_1 k_ ∨ InB A0_2 k_ ∨ k_ = g1_) g) :
    Cl 70 #[(.pointer (some (bx g1_))), (iv x1)] w (fun v_ w_ => ∃ (A0_ : OA) (c0_ : Nat) (F0_ : Nat → Prop), v_ = (.bool r.1) ∧ Blk w_ g1_ 33 #[(sv A0_0 r.2.Code.length c0_0), (sv A0_ r.2.Warps.length c0_), (sv A0_2 s0.Memory.length c0_2), (iv r.2.Waiting), (iv r.2.Phase)] ∧ r.2.Code = s0.Code ∧ OwnW 52 el91 el3 w_ 0 F0_ A0_ c0_ r.2.Warps ∧ MovW w (InW A0_1 F0_1) (InW A0_ F0_) ∧ Own el3 w_ 0 A0_2 c0_2 r.2.Memory ∧ r.2.Memory.length = s0.Memory.length ∧ Chg (fun k_ => InW A0_1 F0_1 k_ ∨ InB A0_2 k_ ∨ k_ = g1_) w w_) := by
 have H := wp.qbo.math s0 x1 hp
 have hB := Chg.refl (fun k_ => InW A0_1 F0_1 k_ ∨ InB A0_2 k_ ∨ k_ = g1_) w
 refine begK mixed Tryz.f70 ann (vc (bx g1_) x1) ?_
 unfold vc
 unfold wp.qbo at H
 have LM3 := MovW.refl w (InW A0_1 F0_1)
 refine ⟨_, _, _, (O1.a 0), _, _, _, (O1.a 1), _, _, _, (O1.a 2), _, (O1.a 3), _, (O1.a 4), ?_⟩
 obtain ⟨hp23, H⟩ := H
 obtain ⟨r21, hr22, H⟩ := qad H
 refine (qaB.con hp23 hr22 (R0_0.chgS hB D0_0) hc0_0 O3.row O3.le O4.row O4.le).mono ?_
 rintro _ w24 ⟨rfl, e25⟩
 have O1 := O1.ext e25
 have O3 := O3.ext e25
 have O4 := O4.ext e25
 have hB := hB.then e25
 refine ⟨(.agg (iC r21.1)), r21.1.Op, trivial, r21.1.A, trivial, r21.1.B, trivial, r21.1.C, trivial, rfl, (.bool r21.2), r21.2, rfl, rfl, ?_⟩
 refine qax (fun g5_ w26 L5 P5 e27 => ?_)
 have N1_5 := O1.ne L5
 have N3_5 := O3.qcv L5
 have N4_5 := O4.qag L5
 have O4 := O4.ext e27
 have O5 := P5
 have L5 := Nat.le_trans hB.size L5
 refine qbI O5 (o := 0) (cs' := (iC r21.1)) rfl rfl (Nat.le_of_ble_eq_true rfl) rfl (fun w28 O5 e29 => ?_)
 have O1 := (O1.ext e27).chg e29 N1_5
 have O3 := (O3.ext e27).chg e29 N3_5
 have O4_ := O4.chg e29 N4_5
 have O4 := O4_
 have hB := (hB.then e27).chgb e29 (Or.inl L5)
 obtain ⟨K150, hKK150, H⟩ := qcR H
 refine ⟨fun z_ w_ => ∃ (xs31 : List D.Warp) (i34 i35 : Int) (xs36 : List Int) (A32 : OA) (c33 : Nat) (F30 : Nat → Prop), z_ = (()) ∧ K150 (xs31, i34, i35, xs36, ()) ∧ Chg (fun k_ => InW A0_1 F0_1 k_ ∨ InB A0_2 k_ ∨ k_ = g1_) w w_ ∧ Blk w_ g1_ 33 #[(sv A0_0 s0.Code.length c0_0), (sv A32 xs31.length c33), (sv A0_2 s0.Memory.length c0_2), (iv i34), (iv i35)] ∧ OwnW 52 el91 el3 w_ 0 F30 A32 c33 xs31 ∧ MovW w (InW A0_1 F0_1) (InW A32 F30) ∧ Own el3 w_ 0 A0_2 c0_2 xs36 ∧ s0.Memory.length = xs36.length ∧ Dis (InW A32 F30) (InB A0_2), ?_, ?_⟩
 ·refine ⟨_, (O5.a 0), _, (O5.a 1), _, (O5.a 2), _, (O5.a 3), ?_⟩
  obtain ⟨r41, hr42, H⟩ := qad H
  refine (qcz.con hr42 ).mono ?_
  rintro _ w44 ⟨rfl, e45⟩
  have O1 := O1.ext e45
  have O3 := O3.ext e45
  have O4 := O4.ext e45
  have O5 := O5.ext e45
  have hB := hB.then e45
  refine ⟨r41, rfl, ?_⟩
  refine brc H (fun h H => ?_) fun h H => ?_
  ·obtain ⟨⟨h0_47, h1_48⟩, H⟩ := H
   obtain ⟨g21_, o21_, z21_, A22_, c22_, A23_, c23_, R21_, G24_, hA24, ha24, ho24, O21, O22, O23, O24, hF24, N24_22, N24_23, N24_21, L21⟩ := OwnW.focus O3 h0_47 h1_48 (by decide) (by decide) (by decide)
   have LM21 := LM3.sub (qoF hA24)
   have LM22 := LM3.sub (qoH hF24)
   have LM23 := LM3.sub (qjV hF24)
   have LM24 := LM3.sub (qgb hF24)
   have N24_4 := qdW N3_4 (qgb hF24)
   have N23_4 := qiJ (qdW N3_4 (qjV hF24))
   refine ⟨(fun _ => False), _, _, _, noM (O1.a 1), ?_⟩
   obtain ⟨⟨h0_49, h1_50⟩, H⟩ := H
   refine ⟨h0_49, (by first | exact h1_50 | omega | (simp at h1_50 ⊢; omega)), (⟨g21_, z21_, none⟩ : Addr), hA24, ?_⟩
   try dsimp only
   try rw [ha24]
   refine ⟨_, _, _, noM (O1.a 0), ?_⟩
   have O1 := O1.ext (Ext.drew _)
   have O4 := O4.ext (Ext.drew _)
   have O21 := O21.ext (Ext.drew _)
   have O22 := O22.ext (Ext.drew _)
   have O23 := O23.ext (Ext.drew _)
   have O24 := O24.ext (Ext.drew _)
   have hB := hB.then (Ext.drew _)
   obtain ⟨hp53, H⟩ := H
   obtain ⟨r51, hr52, H⟩ := qad H
   refine (qbg.con hp53 hr52 (by first | exact O21 | (simp only [bC, wC, List.length_set]; exact O21)) (O22.mono (Nat.zero_le _)) (O23.mono (Nat.zero_le _)) (R0_0.chgS hB D0_0) hc0_0 (fun hx_ => (fun g h_ => (fun hS_ => hS_.elim ((fun g h_ hS_ => ((LM22 _ hS_).elim (fun h4_ => Or.inr (Or.inl h4_)) Or.inl).elim (fun h3_ => Nat.not_le.2 (R0_0.old hx_ g h_) h3_) (D0_0 hx_ g h_)) g h_) (fun hS_ => hS_.elim ((fun g h_ hS_ => ((LM23 _ hS_).elim (fun h4_ => Or.inr (Or.inl h4_)) Or.inl).elim (fun h3_ => Nat.not_le.2 (R0_0.old hx_ g h_) h3_) (D0_0 hx_ g h_)) g h_) ((fun g h_ hS_ => ((LM21 _ hS_).elim (fun h4_ => Or.inr (Or.inl h4_)) Or.inl).elim (fun h3_ => Nat.not_le.2 (R0_0.old hx_ g h_) h3_) (D0_0 hx_ g h_)) g h_)))))).mono ?_
   rintro _ w54 ⟨A56, c57, A58, c59, rfl, Q21, Q25, Mv25, Q26, Mv26, e55⟩
   have LM25 := LM22.mov Mv25 hB.size
   have N24_25 := O24.qlR N24_22 Mv25
   have LM26 := LM23.mov Mv26 hB.size
   have N4_26 := qcy.mov (N23_4).symm Mv26 O4
   have N24_26 := O24.qlR N24_23 Mv26
   have O1 := O1.chgS e55 (fun hS_ => hS_.elim ((O22.qa6 O1 (by decide))).inb (fun hS_ => hS_.elim ((O23.qa6 O1 (by decide))).inb ((Blk.qhR O1 O21.b (by decide)))))
   have O4 := O4.chgS e55 (fun g h_ => (fun hS_ => hS_.elim (((Own.qaq O4 O22 (by decide))).inb g h_) (fun hS_ => hS_.elim (((N23_4).symm).inb g h_) ((qcg (O4.qa6 O21.b (by decide))) g h_))))
   have O24 := O24.kept e55 (fun g h_ => (fun hS_ => hS_.elim (N24_22 g h_) (fun hS_ => hS_.elim (N24_23 g h_) ((qjX N24_21) g h_))))
   have hB := hB.chg e55 (fun g => (fun hS_ => hS_.elim ((fun g h_ => ((LM22 _ h_).elim (fun h4_ => Or.inr (Or.inl h4_)) Or.inl)) g) (fun hS_ => hS_.elim ((fun g h_ => ((LM23 _ h_).elim (fun h4_ => Or.inr (Or.inl h4_)) Or.inl)) g) ((fun g h_ => ((LM21 _ h_).elim (fun h4_ => Or.inr (Or.inl h4_)) Or.inl)) g))))
   have O21 := Q21
   have O25 := Q25
   have O26 := Q26
   refine ⟨r51.1, rfl, ?_⟩
   have O3 := (qeP.back O24 hA24 ho24 O21 O25 O26 rfl rfl (fun _ _ => Nat.zero_le _) (fun _ _ => Nat.zero_le _) (by decide) (by decide) (by decide) N24_25 N24_26)
   have N3_4 := qeF (qie hA24 (O4.qa6 O21.b (by decide))) N24_4 (Own.qaq O25 O4 (by decide)) (N4_26).symm
   have LM3 := MovW.back (LM21.sub (fun _ h_ => qn2 hA24 h_)) LM24 LM25 LM26
   exact ⟨_, _, _, _, A0_1, c0_1, (fun k => G24_ k ∨ InB A56 k ∨ InB A58 k), rfl, H, hB, (by first | exact O1 | (simp only [bC, wC, List.length_set]; exact O1)), O3, LM3, O4, (by first | rfl | assumption | omega | (simp; done) | (simp; omega) | (simp; assumption)), N3_4⟩
  obtain ⟨K112, hKK112, H⟩ := qcR H
  refine ⟨fun z_ w_ => ∃ (xs61 : List D.Warp) (i64 i65 : Int) (xs66 : List Int) (A62 : OA) (c63 : Nat) (F60 : Nat → Prop), z_ = (()) ∧ K112 (xs61, i64, i65, xs66, ()) ∧ Chg (fun k_ => InW A0_1 F0_1 k_ ∨ InB A0_2 k_ ∨ k_ = g1_) w w_ ∧ Blk w_ g1_ 33 #[(sv A0_0 s0.Code.length c0_0), (sv A62 xs61.length c63), (sv A0_2 s0.Memory.length c0_2), (iv i64), (iv i65)] ∧ OwnW 52 el91 el3 w_ 0 F60 A62 c63 xs61 ∧ MovW w (InW A0_1 F0_1) (InW A62 F60) ∧ Own el3 w_ 0 A0_2 c0_2 xs66 ∧ s0.Memory.length = xs66.length ∧ Dis (InW A62 F60) (InB A0_2), ?_, ?_⟩
  ·refine ⟨_, (O5.a 0), ?_⟩
   refine brc H (fun h H => ?_) fun h H => ?_
   ·have O1 := O1.ext (Ext.drew _)
    have O3 := O3.ext (Ext.drew _)
    have O4 := O4.ext (Ext.drew _)
    obtain ⟨hc71, H⟩ := H
    refine ⟨hc71, ?_⟩
    refine qd2 ?_
    refine ⟨_, (O1.a 3), ?_⟩
    refine qd2 ?_
    refine stB O1 3 #[(sv A0_0 s0.Code.length c0_0), (sv A0_1 s0.Warps.length c0_1), (sv A0_2 s0.Memory.length c0_2), (iv (qgS .i64 s0.Waiting (wrap .i64 (1 * 2 ^ (min (x1.toNat) (IntKind.bits .i64)))))), (iv s0.Phase)] (fun w72 P1 e73 => ?_)
    have O3 := O3.chg e73 (O3.qda O1 (by decide) (by decide) (by decide))
    have O4 := O4.chg e73 (O4.qa6 O1 (by decide))
    have hB := (hB.then (Ext.drew _)).chgb e73 (Or.inr (Or.inr (Or.inr rfl)))
    have O1 := P1
    exact ⟨_, _, _, _, A0_1, c0_1, F0_1, rfl, H, hB, O1, O3, LM3, O4, (by first | rfl | assumption | omega | (simp; done) | (simp; omega) | (simp; assumption)), N3_4⟩
   refine ⟨_, (O5.a 0), _, (O5.a 1), _, (O5.a 2), _, (O5.a 3), ?_⟩
   obtain ⟨hp76, H⟩ := H
   obtain ⟨r74, hr75, H⟩ := qad H
   refine (qbM.con hp76 hr75 O1 (R0_0.chgS hB D0_0) hc0_0 (O3.mono (Nat.zero_le _)) (O4.mono (Nat.zero_le _)) N3_4 (fun hx_ => (fun g h_ => (fun hS_ => hS_.elim ((fun g h_ hS_ => D0_0 hx_ g h_ (Or.inl hS_)) g h_) (fun hS_ => hS_.elim ((fun g h_ hS_ => D0_0 hx_ g h_ (Or.inr (Or.inl hS_))) g h_) ((fun g h_ hS_ => D0_0 hx_ g h_ (Or.inr (Or.inr hS_))) g h_)))))).mono ?_
   rintro _ w77 ⟨A80, c81, F82, rfl, Q1, hq79, Q29, Mv29, Q4, hl83, e78⟩
   simp only [bC, wC, hq79] at Q1
   try dsimp only at hl83
   have LM29 := LM3.trans Mv29 hB.size
   have N29_4 := Mv29.dis N3_4 O4.oldA
   have hB := hB.chg e78 (fun g => (fun hS_ => hS_.elim ((fun g h_ => ((LM3 _ h_).elim (fun h4_ => Or.inr (Or.inl h4_)) Or.inl)) g) (fun hS_ => hS_.elim ((fun g h_ => (Or.inr (Or.inr (Or.inl h_)))) g) ((fun g h_ => Or.inr (Or.inr (Or.inr h_))) g))))
   have O1 := Q1
   have O4 := Q4
   have O29 := Q29
   refine ⟨rfl, ?_⟩
   exact ⟨_, _, _, _, A80, c81, F82, rfl, H, hB, (by first | exact O1 | (simp only [bC, wC, List.length_set, hl83]; exact O1)), O29, LM29, O4, (by first | rfl | assumption | omega | (simp; done) | (simp; omega) | (simp; assumption)), N29_4⟩
  rintro _ w69 ⟨xs61, i64, i65, xs66, A62, c63, F60, rfl, H, hB, O1, O28, LM28, O4, hn67, N28_4⟩
  have H := hKK112 _ H
  try dsimp only at H ⊢
  refine ⟨_, _, _, (O1.a 1), ?_⟩
  obtain ⟨⟨h0_85, h1_86⟩, H⟩ := H
  obtain ⟨g30_, o30_, z30_, A31_, c31_, A32_, c32_, R30_, G33_, hA33, ha33, ho33, O30, O31, O32, O33, hF33, N33_31, N33_32, N33_30, L30⟩ := OwnW.focus O28 h0_85 h1_86 (by decide) (by decide) (by decide)
  have LM30 := LM28.sub (qoF hA33)
  have LM31 := LM28.sub (qoH hF33)
  have LM32 := LM28.sub (qjV hF33)
  have LM33 := LM28.sub (qgb hF33)
  have N33_4 := qdW N28_4 (qgb hF33)
  have N32_4 := qiJ (qdW N28_4 (qjV hF33))
  refine ⟨h0_85, h1_86, (⟨g30_, z30_, none⟩ : Addr), hA33, ?_⟩
  try dsimp only
  try rw [ha33]
  refine ⟨_, _, _, (O30.a 1), ?_⟩
  obtain ⟨⟨h0_90, h1_91⟩, H⟩ := H
  obtain ⟨a88, ha89, hat87⟩ := Row.at O31.row h0_90 h1_91
  refine ⟨h0_90, (by first | exact h1_91 | omega | (simp at h1_91 ⊢; omega)), a88, ha89, _, (hat87 0 _ rfl), ?_⟩
  obtain ⟨⟨h0_95, h1_96⟩, H⟩ := H
  obtain ⟨a93, ha94, hat92⟩ := Row.at O31.row h0_95 h1_96
  refine ⟨h0_95, (by first | exact h1_96 | omega | (simp at h1_96 ⊢; omega)), a93, ha94, ?_⟩
  refine Own.stA O31 ha94 h0_95 h1_96 0 (⟨(wrap .i64 ((rd ((rd xs61 x1).Frames) (wrap .i64 (((rd xs61 x1).Frames.length : Int) - 1))).Pc + 1)), (rd ((rd xs61 x1).Frames) (wrap .i64 (((rd xs61 x1).Frames.length : Int) - 1))).Stop, (rd ((rd xs61 x1).Frames) (wrap .i64 (((rd xs61 x1).Frames.length : Int) - 1))).Mask⟩ : D.Frame) (fun w97 P31 e98 hb99 => ?_)
  have O1 := O1.chg e98 (fun h_ => ((O31.qa6 O1 (by decide))) _ ha94 h_.symm)
  have O4 := O4.chg e98 (((Own.qaq O4 O31 (by decide))).left ha94)
  have O30 := O30.chg e98 (fun h_ => ((O31.qa6 O30.b (by decide))) _ ha94 h_.symm)
  have O32 := O32.chg e98 (((Own.qaq O32 O31 (by decide))).left ha94)
  refine ⟨(fun _ => False), _, _, _, noM (O1.a 1), ?_⟩
  obtain ⟨⟨h0_101, h1_102⟩, H⟩ := H
  refine ⟨h0_101, (by first | exact h1_102 | omega | (simp at h1_102 ⊢; omega)), (⟨g30_, z30_, none⟩ : Addr), hA33, ?_⟩
  try dsimp only
  try rw [ha33]
  refine ⟨_, _, _, noM (O1.a 0), ?_⟩
  have O1 := O1.ext (Ext.drew _)
  have O4 := O4.ext (Ext.drew _)
  have O30 := O30.ext (Ext.drew _)
  have O31 := P31.ext (Ext.drew _)
  have O32 := O32.ext (Ext.drew _)
  have O33 := (O33.chg e98 (fun h_ => N33_31 _ h_ ⟨_, ha94, rfl⟩)).ext (Ext.drew _)
  have hB := (hB.chgb e98 ((LM31 _ ⟨_, ha94, rfl⟩).elim (fun h4_ => Or.inr (Or.inl h4_)) Or.inl)).then (Ext.drew _)
  obtain ⟨hp105, H⟩ := H
  obtain ⟨r103, hr104, H⟩ := qad H
  refine (qbw.con hp105 hr104 (by first | exact O30 | (simp only [bC, wC, List.length_set]; exact O30)) (O31.mono (Nat.zero_le _)) O32.row O32.le (fun _ => (fun g h_ => (fun hS_ => hS_.elim (((Own.qaq O32 O31 (by decide))).inb g h_) ((qcg (O32.qa6 O30.b (by decide))) g h_))))).mono ?_
  rintro _ w106 ⟨A108, c109, rfl, Q30, Q34, Mv34, hq110, e107⟩
  simp only [bC, wC, hq110] at Q30
  have LM34 := LM31.mov Mv34 hB.size
  have N33_34 := O33.qlR N33_31 Mv34
  have O1 := O1.chgS e107 (fun hS_ => hS_.elim ((O31.qa6 O1 (by decide))).inb ((Blk.qhR O1 O30.b (by decide))))
  have O4 := O4.chgS e107 (fun g h_ => (fun hS_ => hS_.elim (((Own.qaq O4 O31 (by decide))).inb g h_) ((qcg (O4.qa6 O30.b (by decide))) g h_)))
  have O32 := O32.chgS e107 (fun g h_ => (fun hS_ => hS_.elim (((Own.qaq O32 O31 (by decide))).inb g h_) ((qcg (O32.qa6 O30.b (by decide))) g h_)))
  have O33 := O33.kept e107 (fun g h_ => (fun hS_ => hS_.elim (N33_31 g h_) ((qjX N33_30) g h_)))
  have hB := hB.chg e107 (fun g => (fun hS_ => hS_.elim ((fun g h_ => ((LM31 _ h_).elim (fun h4_ => Or.inr (Or.inl h4_)) Or.inl)) g) ((fun g h_ => ((LM30 _ h_).elim (fun h4_ => Or.inr (Or.inl h4_)) Or.inl)) g)))
  have O30 := Q30
  have O34 := Q34
  refine ⟨rfl, ?_⟩
  have O28 := (qeP.back O33 hA33 ho33 O30 O34 O32 rfl (by first | rfl | (simp only [bC, wC, List.length_set]; done) | (simp; done) | (simp; omega)) (fun _ _ => Nat.zero_le _) (fun _ _ => Nat.zero_le _) (by decide) (by decide) (by decide) N33_34 N33_32)
  have N28_4 := qeF (qie hA33 (O4.qa6 O30.b (by decide))) N33_4 (Own.qaq O34 O4 (by decide)) N32_4
  have LM28 := MovW.back (LM30.sub (fun _ h_ => qn2 hA33 h_)) LM33 LM34 LM32
  exact ⟨_, i64, i65, xs66, A62, c63, (fun k => G33_ k ∨ InB A108 k ∨ InB A32_ k), rfl, H, hB, (by first | exact O1 | (simp only [bC, wC, List.length_set, ← hn67]; exact O1)), O28, LM28, O4, (by first | rfl | assumption | omega | (simp; done) | (simp; omega) | (simp; assumption)), N28_4⟩
 rintro _ w39 ⟨xs31, i34, i35, xs36, A32, c33, F30, rfl, H, hB, O1, O20, LM20, O4, hn37, N20_4⟩
 have H := hKK150 _ H
 try dsimp only at H ⊢
 refine ⟨_, (O1.a 3), ?_⟩
 refine brc H (fun h H => ?_) fun h H => ?_
 ·cases hr.trans H.symm
  exact ⟨A32, c33, F30, rfl, O1, rfl, (O20.mono (Nat.zero_le _)), LM20, O4, (by first | (simp only [bC, wC, List.length_set]; done) | (simp only [bC, wC, List.length_set, ← hn37]; done) | (simp; done) | (simp; omega) | omega), hB⟩
 refine ⟨_, _, _, (O1.a 1), ?_⟩
 obtain ⟨J116, ⟨m146, hJ145⟩, hS117⟩ := H
 refine ⟨fun m_ z_ w_ => ∃ (i114 : Int), z_ = (i114, ()) ∧ J116 m_ (i114, ()) ∧ Chg (fun k_ => InW A0_1 F0_1 k_ ∨ InB A0_2 k_ ∨ k_ = g1_) w w_ ∧ Blk w_ g1_ 33 #[(sv A0_0 s0.Code.length c0_0), (sv A32 xs31.length c33), (sv A0_2 s0.Memory.length c0_2), (iv i34), (iv i35)] ∧ Own el3 w_ 0 A0_2 c0_2 xs36 ∧ OwnW 52 el91 el3 w_ 0 F30 A32 c33 xs31, ⟨m146, 0, rfl, hJ145, hB, (by first | exact O1 | (simp only [bC, wC, List.length_set, ← hn37]; exact O1)), O4, O20⟩, ?_⟩
 rintro m115 _ w119 ⟨i114, rfl, hJ147, hB, O1, O4, O20⟩
 have H := hS117 m115 _ hJ147
 clear hS117 hJ147
 try dsimp only at H ⊢
 refine brc H (fun h H => ?_) fun h H => ?_
 ·obtain ⟨⟨h0_120, h1_121⟩, H⟩ := H
  obtain ⟨g35_, o35_, z35_, A36_, c36_, A37_, c37_, R35_, G38_, hA38, ha38, ho38, O35, O36, O37, O38, hF38, N38_36, N38_37, N38_35, L35⟩ := OwnW.focus O20 h0_120 h1_121 (by decide) (by decide) (by decide)
  refine ⟨h0_120, h1_121, (⟨g35_, z35_, none⟩ : Addr), hA38, ?_⟩
  try dsimp only
  try rw [ha38]
  refine ⟨_, (O35.a 0), _, _, _, (O35.a 1), _, _, _, (O35.a 2), ?_⟩
  refine qax (fun g39_ w122 L39 P39 e123 => ?_)
  have N1_39 := O1.ne L39
  have N4_39 := O4.qag L39
  have N35_39 := O35.ne L39
  have N36_39 := O36.qag L39
  have N37_39 := O37.qag L39
  have N38_39 := O38.qcv L39
  have O39 := P39
  have L39 := Nat.le_trans hB.size L39
  refine qbI O39 (o := 0) (cs' := #[(iv ((rd xs31 i114).Number)), (sv A36_ ((rd xs31 i114).Frames.length) c36_), (sv A37_ ((rd xs31 i114).Regs.length) c37_)]) rfl rfl (Nat.le_of_ble_eq_true rfl) rfl (fun w124 O39 e125 => ?_)
  have O1 := (O1.ext e123).chg e125 N1_39
  have O4 := (O4.ext e123).chg e125 N4_39
  have O35 := (O35.ext e123).chg e125 N35_39
  have O36 := (O36.ext e123).chg e125 N36_39
  have O37 := (O37.ext e123).chg e125 N37_39
  have O38 := (O38.ext e123).chg e125 N38_39
  have hB := (hB.then e123).chgb e125 (Or.inl L39)
  refine ⟨_, _, _, (O1.a 0), _, _, _, (O1.a 1), _, _, _, (O1.a 2), _, (O1.a 3), _, (O1.a 4), ?_⟩
  have O20 := ((qeP.back O38 hA38 ho38 O35 O36 O37 (by first | rfl | (simp only [bC, wC, List.length_set]; done) | (simp; done) | (simp; omega)) (by first | rfl | (simp only [bC, wC, List.length_set]; done) | (simp; done) | (simp; omega)) (fun _ _ => Nat.zero_le _) (fun _ _ => Nat.zero_le _) (by decide) (by decide) (by decide) N38_36 N38_37).qlQ hF38).unset
  obtain ⟨hp128, H⟩ := H
  obtain ⟨r126, hr127, H⟩ := qad H
  refine (qhX (by first | (simp only [bC, wC, List.length_set, ← hn37]; done) | (simp; done)) (qbB.con hp128 hr127 (R0_0.chgS hB D0_0) hc0_0 O20.row O20.le O4.row O4.le)).mono ?_
  rintro _ w129 ⟨rfl, e130⟩
  have O1 := O1.ext e130
  have O4 := O4.ext e130
  have O39 := O39.ext e130
  have O20 := O20.ext e130
  have hB := hB.then e130
  refine ⟨r126, rfl, ?_⟩
  refine brc H (fun h H => ?_) fun h H => ?_
  ·refine ⟨_, _, _, (O39.a 1), ?_⟩
   refine brc H (fun h H => ?_) fun h H => ?_
   ·cases hr.trans H.symm
    exact ⟨A32, c33, F30, rfl, O1, rfl, (O20.mono (Nat.zero_le _)), LM20, O4, (by first | (simp only [bC, wC, List.length_set]; done) | (simp only [bC, wC, List.length_set, ← hn37]; done) | (simp; done) | (simp; omega) | omega), hB⟩
   obtain ⟨m131, hm132, hJ133⟩ := H
   exact ⟨m131, hm132, _, rfl, hJ133, hB, (by first | exact O1 | (simp only [bC, wC, List.length_set, ← hn37]; exact O1)), O4, O20⟩
  obtain ⟨m135, hm136, hJ137⟩ := H
  exact ⟨m135, hm136, _, rfl, hJ137, hB, (by first | exact O1 | (simp only [bC, wC, List.length_set, ← hn37]; exact O1)), O4, O20⟩
 refine stB O1 3 #[(sv A0_0 s0.Code.length c0_0), (sv A32 xs31.length c33), (sv A0_2 s0.Memory.length c0_2), (iv 0), (iv i35)] (fun w139 P1 e140 => ?_)
 have O4_ := O4.chg e140 (O4.qa6 O1 (by decide))
 have O20_ := O20.chg e140 (O20.qda O1 (by decide) (by decide) (by decide))
 have O4 := O4_
 have O20 := O20_
 have O1 := P1
 refine ⟨_, (O1.a 4), ?_⟩
 refine stB O1 4 #[(sv A0_0 s0.Code.length c0_0), (sv A32 xs31.length c33), (sv A0_2 s0.Memory.length c0_2), (iv 0), (iv (wrap .i64 (i35 + 1)))] (fun w141 P1 e142 => ?_)
 have O4 := O4.chg e142 (O4.qa6 O1 (by decide))
 have O20 := O20.chg e142 (O20.qda O1 (by decide) (by decide) (by decide))
 have hB := (hB.chgb e140 (Or.inr (Or.inr (Or.inr rfl)))).chgb e142 (Or.inr (Or.inr (Or.inr rfl)))
 have O1 := P1
 refine ⟨_, (O1.a 4), ?_⟩
 cases hr.trans H.symm
 exact ⟨A32, c33, F30, rfl, O1, rfl, (O20.mono (Nat.zero_le _)), LM20, O4, (by first | (simp only [bC, wC, List.length_set]; done) | (simp only [bC, wC, List.length_set, ← hn37]; done) | (simp; done) | (simp; omega) | omega), hB⟩
def qbm.vc (x0 : Int) (p1 : Addr) (w : World) (K : VK) : Prop :=
  ldS w (p1.add 0) fun A21 n22 c23 => qa1 (x0 == ((n22 : Nat) : Int)) (K (.tuple #[(iv 0), (.bool false)]) w) (ldS w (p1.add 0) fun A24 n25 c26 => (idx x0 n25 A24 fun a27 => ldI w ((a27.add ((x0.toNat) * 1)).add 0) fun n28 => K (.tuple #[(iv n28), (.bool true)]) w))

def qbm.ann : Ann := (.seq .l (.seq (.seq .l (.two (.seq .l .l) .l)) (.seq .l .l)))

theorem qbm.con {x0 : Int} {xs1 : List Int} {g1_ c1_0 : Nat} {A1_0 : OA} {r : Int × Bool} {w : World} (hp : M.qfn x0 xs1) (hr : r = M.qbm x0 xs1) (O1 : Blk w g1_ 24 #[(sv A1_0 xs1.length c1_0)]) (R1_0 : Row el3 w A1_0 xs1) (hc1_0 : xs1.length ≤ c1_0) :
    Cl 83 #[(iv x0), (.pointer (some (bx g1_)))] w (fun v_ w_ => v_ = (.tuple #[(iv r.1), (.bool r.2)]) ∧ Ext w w_) := by
 have H := wp.qbm.math x0 xs1 hp
 have hB := Ext.refl w
 refine begK mixed Tryz.f83 ann (vc x0 (bx g1_)) ?_
 unfold vc
 unfold wp.qbm at H
 refine ⟨_, _, _, (O1.a 0), ?_⟩
 refine brc H (fun h H => ?_) fun h H => ?_
 ·cases hr.trans H.symm
  exact ⟨rfl, hB⟩
 refine ⟨_, _, _, (O1.a 0), ?_⟩
 obtain ⟨⟨h0_24, h1_25⟩, H⟩ := H
 obtain ⟨a22, ha23, hat21⟩ := Row.at (R1_0.ext hB) h0_24 h1_25
 refine ⟨h0_24, h1_25, a22, ha23, _, (hat21 0 _ rfl), ?_⟩
 cases hr.trans H.symm
 exact ⟨rfl, hB⟩
def qcr.vc (x0 : Int) (w : World) (K : VK) : Prop :=
  K (.tuple #[]) w

def qcr.ann : Ann := .l

theorem qcr.con {x0 : Int} {r : Unit} {w : World} (hr : r = M.qcr x0)  :
    Cl 84 #[(iv x0)] w (fun v_ w_ => v_ = (.tuple #[]) ∧ Ext w w_) := by
 have H := wp.qcr.math x0
 have hB := Ext.refl w
 refine begK mixed Tryz.f84 ann (vc x0) ?_
 unfold vc
 unfold wp.qcr at H
 cases hr.trans H.symm
 exact ⟨rfl, hB⟩
def qaF.vc (p0 : Addr) (f1 : Nat) (cap1 : Array Value) (f2 : Nat) (cap2 : Array Value) (w : World) (K : VK) : Prop :=
  qdA (σ := Int × Unit) (fun z21 w22 next23 => Cl f1 (#[(iv z21.1)] ++ cap1) w22 fun v24 w25 => (∃ u26 : Value, (∃ (n27 : Int), u26 = (iv n27) ∧ ∃ u28 : Value, (∃ (b29 : Bool), u28 = (.bool b29) ∧ v24 = (.tuple #[(iv n27), (.bool b29)]) ∧ qa1 (!b29) (K (iv z21.1) w25) (qa1 (decide (n27 < 0)) (K (iv z21.1) w25) (ldI w25 ((p0.add 4).add 0) fun n31 => qa1 (n31 == 100000) (K (iv z21.1) w25) (ldS w25 (p0.add 0) fun A32 n33 c34 => ldS w25 (p0.add 1) fun A35 n36 c37 => ldS w25 (p0.add 2) fun A38 n39 c40 => ldI w25 (p0.add 3) fun n41 => ldI w25 (p0.add 4) fun n42 => Cl 81 #[(.agg (vB A32 n33 c34 A35 n36 c37 A38 n39 c40 n41 n42)), (iv n27)] w25 fun v43 w44 => (∃ (n45 : Int), v43 = (iv n45) ∧ qa1 (decide (n45 < 0)) (K (iv z21.1) w44) (Cl f2 (#[(iv n45)] ++ cap2) w44 fun v46 w47 => (v46 = (.tuple #[]) ∧ Cl 70 #[(.pointer (some p0)), (iv n45)] w47 fun v48 w49 => (∃ (b50 : Bool), v48 = (.bool b50) ∧ next23 ((wrap .i64 (z21.1 + 1)), ()) w49))))))))))) (0, ()) w

def qaF.ann : Ann := (.seq .l (.seq .l (.one (.loop [(7, .int .i64)] (.seq (.one (.seq .l (.seq (.seq .l (.two (.seq .l .l) .l)) (.seq .l (.seq (.seq .l (.two (.seq .l .l) .l)) (.seq .l .l)))))) .l)))))

theorem qaF.start {p0 : Addr} {f1 : Nat} {cap1 : Array Value} {f2 : Nat} {cap2 : Array Value} {w : World} {K : Value → World → Prop} (h : qaF.vc p0 f1 cap1 f2 cap2 w K) : Cl 82 #[(.pointer (some p0)), (.func (.func f1) #[] cap1), (.func (.func f2) #[] cap2)] w K :=
  qex mixed (fn := Tryz.f82) (by kernel_rfl) (by kernel_rfl) (an := qaF.ann) (args := [(.pointer (some p0)), (.func (.func f1) #[] cap1), (.func (.func f2) #[] cap2)]) (Eq.mpr (by kernel_rfl) h)

theorem qaF.con {s0 : D.Block} {xs1c0 : List Int} {g1_ c0_0 c0_1 c0_2 g5_ c1c0_0 : Nat} {A0_0 A0_1 A0_2 A1c0_0 : OA} {F0_1 : Nat → Prop} {r : Int × D.Block} {w : World} (hp : M.qeu s0 xs1c0) (hr : r = M.qaF s0 xs1c0) (O1 : Blk w g1_ 33 (bC A0_0 c0_0 A0_1 c0_1 A0_2 c0_2 s0)) (R0_0 : Row el84 w A0_0 s0.Code) (hc0_0 : s0.Code.length ≤ c0_0) (O3 : OwnW 52 el91 el3 w 0 F0_1 A0_1 c0_1 s0.Warps) (O4 : Own el3 w 0 A0_2 c0_2 s0.Memory) (O5 : Blk w g5_ 24 #[(sv A1c0_0 xs1c0.length c1c0_0)]) (R1c0_0 : Row el3 w A1c0_0 xs1c0) (hc1c0_0 : xs1c0.length ≤ c1c0_0) (N3_4 : Dis (InW A0_1 F0_1) (InB A0_2)) (DB5 : ¬ (fun k_ => InW A0_1 F0_1 k_ ∨ InB A0_2 k_ ∨ k_ = g1_) g5_) (D0_0 : s0.Code ≠ [] → ∀ g, InB A0_0 g → ¬ (fun k_ => InW A0_1 F0_1 k_ ∨ InB A0_2 k_ ∨ k_ = g1_) g) (D1c0_0 : xs1c0 ≠ [] → ∀ g, InB A1c0_0 g → ¬ (fun k_ => InW A0_1 F0_1 k_ ∨ InB A0_2 k_ ∨ k_ = g1_) g) :
    Cl 82 #[(.pointer (some (bx g1_))), (.func (.func 83) #[] #[(.pointer (some (bx g5_)))]), (.func (.func 84) #[] #[])] w (fun v_ w_ => ∃ (A0_ : OA) (c0_ : Nat) (F0_ : Nat → Prop), v_ = (iv r.1) ∧ Blk w_ g1_ 33 #[(sv A0_0 r.2.Code.length c0_0), (sv A0_ r.2.Warps.length c0_), (sv A0_2 s0.Memory.length c0_2), (iv r.2.Waiting), (iv r.2.Phase)] ∧ r.2.Code = s0.Code ∧ OwnW 52 el91 el3 w_ 0 F0_ A0_ c0_ r.2.Warps ∧ MovW w (InW A0_1 F0_1) (InW A0_ F0_) ∧ Own el3 w_ 0 A0_2 c0_2 r.2.Memory ∧ r.2.Memory.length = s0.Memory.length ∧ Chg (fun k_ => InW A0_1 F0_1 k_ ∨ InB A0_2 k_ ∨ k_ = g1_) w w_) := by
 have H := wp.qaF.math s0 xs1c0 hp
 have hB := Chg.refl (fun k_ => InW A0_1 F0_1 k_ ∨ InB A0_2 k_ ∨ k_ = g1_) w
 refine qaF.start ?_
 unfold vc
 unfold wp.qaF at H
 have LM3 := MovW.refl w (InW A0_1 F0_1)
 obtain ⟨J62, ⟨m100, hJ99⟩, hS63⟩ := H
 refine ⟨fun m_ z_ w_ => ∃ (i52 : Int) (xs54 : List D.Warp) (i57 i58 : Int) (xs59 : List Int) (A55 : OA) (c56 : Nat) (F53 : Nat → Prop), z_ = (i52, ()) ∧ J62 m_ (i52, xs54, i57, i58, xs59, ()) ∧ Chg (fun k_ => InW A0_1 F0_1 k_ ∨ InB A0_2 k_ ∨ k_ = g1_) w w_ ∧ Blk w_ g1_ 33 #[(sv A0_0 s0.Code.length c0_0), (sv A55 xs54.length c56), (sv A0_2 s0.Memory.length c0_2), (iv i57), (iv i58)] ∧ OwnW 52 el91 el3 w_ 0 F53 A55 c56 xs54 ∧ MovW w (InW A0_1 F0_1) (InW A55 F53) ∧ Own el3 w_ 0 A0_2 c0_2 xs59 ∧ s0.Memory.length = xs59.length ∧ Blk w_ g5_ 24 #[(sv A1c0_0 xs1c0.length c1c0_0)] ∧ Dis (InW A55 F53) (InB A0_2), ⟨m100, 0, s0.Warps, s0.Waiting, s0.Phase, s0.Memory, A0_1, c0_1, F0_1, rfl, hJ99, hB, O1, O3, LM3, O4, (by first | rfl | assumption | omega | (simp; done) | (simp; omega) | (simp; assumption)), O5, N3_4⟩, ?_⟩
 rintro m61 _ w65 ⟨i52, xs54, i57, i58, xs59, A55, c56, F53, rfl, hJ101, hB, O1, O8, LM8, O4, hn60, O5, N8_4⟩
 have H := hS63 m61 _ hJ101
 clear hS63 hJ101
 try dsimp only at H ⊢
 obtain ⟨hp68, H⟩ := H
 obtain ⟨r66, hr67, H⟩ := qad H
 refine (qjj (l1 := [_]) (l2 := [_]) (qbm.con hp68 hr67 O5 (R1c0_0.chgS hB D1c0_0) hc1c0_0)).mono ?_
 rintro _ w69 ⟨rfl, e70⟩
 have O1 := O1.ext e70
 have O4 := O4.ext e70
 have O5 := O5.ext e70
 have O8 := O8.ext e70
 have hB := hB.then e70
 refine ⟨(iv r66.1), r66.1, rfl, (.bool r66.2), r66.2, rfl, rfl, ?_⟩
 refine brc H (fun h H => ?_) fun h H => ?_
 ·cases hr.trans H.symm
  exact ⟨A55, c56, F53, rfl, O1, rfl, (O8.mono (Nat.zero_le _)), LM8, O4, (by first | (simp only [bC, wC, List.length_set]; done) | (simp only [bC, wC, List.length_set, ← hn60]; done) | (simp; done) | (simp; omega) | omega), hB⟩
 refine brc H (fun h H => ?_) fun h H => ?_
 ·cases hr.trans H.symm
  exact ⟨A55, c56, F53, rfl, O1, rfl, (O8.mono (Nat.zero_le _)), LM8, O4, (by first | (simp only [bC, wC, List.length_set]; done) | (simp only [bC, wC, List.length_set, ← hn60]; done) | (simp; done) | (simp; omega) | omega), hB⟩
 refine ⟨_, (O1.a 4), ?_⟩
 refine brc H (fun h H => ?_) fun h H => ?_
 ·cases hr.trans H.symm
  exact ⟨A55, c56, F53, rfl, O1, rfl, (O8.mono (Nat.zero_le _)), LM8, O4, (by first | (simp only [bC, wC, List.length_set]; done) | (simp only [bC, wC, List.length_set, ← hn60]; done) | (simp; done) | (simp; omega) | omega), hB⟩
 refine ⟨_, _, _, (O1.a 0), _, _, _, (O1.a 1), _, _, _, (O1.a 2), _, (O1.a 3), _, (O1.a 4), ?_⟩
 obtain ⟨hp73, H⟩ := H
 obtain ⟨r71, hr72, H⟩ := qad H
 refine (qhX (by first | (simp only [bC, wC, List.length_set, ← hn60]; done) | (simp; done)) (qaX.con hp73 hr72 (R0_0.chgS hB D0_0) hc0_0 O8.row O8.le O4.row O4.le)).mono ?_
 rintro _ w74 ⟨rfl, e75⟩
 have O1 := O1.ext e75
 have O4 := O4.ext e75
 have O5 := O5.ext e75
 have O8 := O8.ext e75
 have hB := hB.then e75
 refine ⟨r71, rfl, ?_⟩
 refine brc H (fun h H => ?_) fun h H => ?_
 ·cases hr.trans H.symm
  exact ⟨A55, c56, F53, rfl, O1, rfl, (O8.mono (Nat.zero_le _)), LM8, O4, (by first | (simp only [bC, wC, List.length_set]; done) | (simp only [bC, wC, List.length_set, ← hn60]; done) | (simp; done) | (simp; omega) | omega), hB⟩
 obtain ⟨r76, hr77, H⟩ := qad H
 refine (qcr.con hr77 ).mono ?_
 rintro _ w79 ⟨rfl, e80⟩
 have O1 := O1.ext e80
 have O4 := O4.ext e80
 have O5 := O5.ext e80
 have O8 := O8.ext e80
 have hB := hB.then e80
 refine ⟨rfl, ?_⟩
 obtain ⟨hp83, H⟩ := H
 obtain ⟨r81, hr82, H⟩ := qad H
 refine (qbo.con hp83 hr82 (by first | exact O1 | (simp only [bC, wC, List.length_set, ← hn60]; exact O1)) (R0_0.chgS hB D0_0) hc0_0 (O8.mono (Nat.zero_le _)) (O4.mono (Nat.zero_le _)) N8_4 (fun hx_ => (fun g h_ => (fun hS_ => hS_.elim ((fun g h_ hS_ => ((LM8 _ hS_).elim (fun h4_ => Or.inr (Or.inl h4_)) Or.inl).elim (fun h3_ => Nat.not_le.2 (R0_0.old hx_ g h_) h3_) (D0_0 hx_ g h_)) g h_) (fun hS_ => hS_.elim ((fun g h_ hS_ => D0_0 hx_ g h_ (Or.inr (Or.inl hS_))) g h_) ((fun g h_ hS_ => D0_0 hx_ g h_ (Or.inr (Or.inr hS_))) g h_)))))).mono ?_
 rintro _ w84 ⟨A87, c88, F89, rfl, Q1, hq86, Q9, Mv9, Q4, hl90, e85⟩
 simp only [bC, wC, hq86] at Q1
 simp only [bC, wC, List.length_set, ← hn60] at Q1
 try dsimp only at hl90
 have LM9 := LM8.trans Mv9 hB.size
 have N9_4 := Mv9.dis N8_4 O4.oldA
 have O5 := O5.chgS e85 (fun hS_ => hS_.elim (O8.qda O5 (by decide) (by decide) (by decide)) (fun hS_ => hS_.elim ((show Apart A0_2 g5_ from fun a_ ha_ hb_ => DB5 (Or.inr (Or.inl ⟨a_, ha_, hb_⟩)))).inb ((fun h_ => DB5 (Or.inr (Or.inr h_))))))
 have hB := hB.chg e85 (fun g => (fun hS_ => hS_.elim ((fun g h_ => ((LM8 _ h_).elim (fun h4_ => Or.inr (Or.inl h4_)) Or.inl)) g) (fun hS_ => hS_.elim ((fun g h_ => (Or.inr (Or.inr (Or.inl h_)))) g) ((fun g h_ => Or.inr (Or.inr (Or.inr h_))) g))))
 have O1 := Q1
 have O4 := Q4
 have O9 := Q9
 refine ⟨r81.1, rfl, ?_⟩
 obtain ⟨m91, hm92, hJ93⟩ := H
 exact ⟨m91, hm92, _, _, _, _, _, A87, c88, F89, rfl, hJ93, hB, (by first | exact O1 | (simp only [bC, wC, List.length_set, ← hn60, hl90]; exact O1)), O9, LM9, O4, (by first | rfl | assumption | omega | (simp; done) | (simp; omega) | (simp; assumption)), O5, N9_4⟩
def qbi.vc (A0_0 : OA) (n0_0 c0_0 : Nat) (A0_1 : OA) (n0_1 c0_1 : Nat) (A0_2 : OA) (n0_2 c0_2 : Nat) (x0_3 x0_4 : Int) (A1 : OA) (n1 c1 : Nat) (w : World) (K : VK) : Prop :=
  newK w (.cells (vB A0_0 n0_0 c0_0 A0_1 n0_1 c0_1 A0_2 n0_2 c0_2 x0_3 x0_4) 33) fun g21 w22 => newK w22 (.cells #[(sv A1 n1 c1)] 24) fun g23 w24 => newK w24 (.cells zC 33) fun g25 w26 => ldB w26 (bx g21) fun A27 n28 c29 A30 n31 c32 A33 n34 c35 n36 n37 => Cl 69 #[(.agg (vB A27 n28 c29 A30 n31 c32 A33 n34 c35 n36 n37))] w26 fun v38 w39 => (∃ (A40 : OA) (n41 c42 : Nat), True ∧ ∃ (A43 : OA) (n44 c45 : Nat), True ∧ ∃ (A46 : OA) (n47 c48 : Nat), True ∧ ∃ (n49 : Int), True ∧ ∃ (n50 : Int), True ∧ v38 = (.agg (vB A40 n41 c42 A43 n44 c45 A46 n47 c48 n49 n50)) ∧ newK w39 (.cells zC 33) fun g51 w52 => qa7 (bx g51) [(sv A40 n41 c42), (sv A43 n44 c45), (sv A46 n47 c48), (iv n49), (iv n50)] 0 w52 fun w53 => ldB w53 (bx g21) fun A55 n56 c57 A58 n59 c60 A61 n62 c63 n64 n65 => Cl 32 #[(.agg (vB A55 n56 c57 A58 n59 c60 A61 n62 c63 n64 n65))] w53 fun v66 w67 => (∃ (b68 : Bool), v66 = (.bool b68) ∧ qa1 (!b68) (ldB w67 (bx g51) fun A69 n70 c71 A72 n73 c74 A75 n76 c77 n78 n79 => qa7 (bx g25) [(sv A69 n70 c71), (sv A72 n73 c74), (sv A75 n76 c77), (iv n78), (iv n79)] 0 w67 fun w80 => ldB w80 (bx g25) fun A81 n82 c83 A84 n85 c86 A87 n88 c89 n90 n91 => K (.tuple #[(.agg (vB A81 n82 c83 A84 n85 c86 A87 n88 c89 n90 n91)), (iv (-1))]) w80) (ldS w67 ((bx g23).add 0) fun A92 n93 c94 => qa1 (decide (((n93 : Nat) : Int) > 400)) (ldB w67 (bx g51) fun A95 n96 c97 A98 n99 c100 A101 n102 c103 n104 n105 => qa7 (bx g25) [(sv A95 n96 c97), (sv A98 n99 c100), (sv A101 n102 c103), (iv n104), (iv n105)] 0 w67 fun w106 => ldB w106 (bx g25) fun A107 n108 c109 A110 n111 c112 A113 n114 c115 n116 n117 => K (.tuple #[(.agg (vB A107 n108 c109 A110 n111 c112 A113 n114 c115 n116 n117)), (iv (-1))]) w106) (Cl 82 #[(.pointer (some (bx g51))), (.func (.func 83) #[] #[(.pointer (some (bx g23)))]), (.func (.func 84) #[] #[])] w67 fun v118 w119 => (∃ (n120 : Int), v118 = (iv n120) ∧ ldB w119 (bx g51) fun A121 n122 c123 A124 n125 c126 A127 n128 c129 n130 n131 => qa7 (bx g25) [(sv A121 n122 c123), (sv A124 n125 c126), (sv A127 n128 c129), (iv n130), (iv n131)] 0 w119 fun w132 => ldB w132 (bx g25) fun A133 n134 c135 A136 n137 c138 A139 n140 c141 n142 n143 => K (.tuple #[(.agg (vB A133 n134 c135 A136 n137 c138 A139 n140 c141 n142 n143)), (iv n120)]) w132)))))

def qbi.ann : Ann := (.seq .l (.seq .l (.seq (.seq .l (.two (.seq .l .l) .l)) (.seq .l (.seq .l .l)))))

theorem qbi.con {s0 : D.Block} {A0_0 A0_1 A0_2 A1 : OA} {c0_0 c0_1 c0_2 c1 : Nat} {xs1 : List Int} {r : D.Block × Int} {w : World} (hp : M.qdC s0 xs1) (hr : r = M.qbi s0 xs1) (R0_0 : Row el84 w A0_0 s0.Code) (hc0_0 : s0.Code.length ≤ c0_0) (R0_1 : RowW 52 el91 el3 w A0_1 s0.Warps) (hc0_1 : s0.Warps.length ≤ c0_1) (R0_2 : Row el3 w A0_2 s0.Memory) (hc0_2 : s0.Memory.length ≤ c0_2) (R1 : Row el3 w A1 xs1) (hc1 : xs1.length ≤ c1) :
    Cl 36 #[(.agg (bC A0_0 c0_0 A0_1 c0_1 A0_2 c0_2 s0)), (sv A1 xs1.length c1)] w (fun v_ w_ => ∃ (A0_ : OA) (c0_ : Nat) (A1_ : OA) (c1_ : Nat) (F1_ : Nat → Prop) (A2_ : OA) (c2_ : Nat), v_ = (.tuple #[(.agg (bC A0_ c0_ A1_ c1_ A2_ c2_ r.1)), (iv r.2)]) ∧ Own el84 w_ w.heap.size A0_ c0_ r.1.Code ∧ OwnW 52 el91 el3 w_ w.heap.size F1_ A1_ c1_ r.1.Warps ∧ Own el3 w_ w.heap.size A2_ c2_ r.1.Memory ∧ Dis (InW A1_ F1_) (InB A2_) ∧ Ext w w_) := by
 have H := wp.qbi.math s0 xs1 hp
 refine begK mixed Tryz.f36 ann (vc A0_0 s0.Code.length c0_0 A0_1 s0.Warps.length c0_1 A0_2 s0.Memory.length c0_2 s0.Waiting s0.Phase A1 xs1.length c1) ?_
 unfold vc
 unfold wp.qbi at H
 refine qax (fun g5_ w21 L5 O5 e22 => ?_)
 refine qax (fun g6_ w23 L6 O6 e24 => ?_)
 have hB := qa5 (qa5 (Ext.refl w) e22) e24
 refine qax (fun g7_ w25 L7 P7 e26 => ?_)
 have O5 := (O5.ext e24).ext e26
 have O6 := O6.ext e26
 have O7 := P7
 have L7 := Nat.le_trans hB.size L7
 have hB := qa5 hB e26
 refine ⟨_, _, _, (O5.a 0), _, _, _, (O5.a 1), _, _, _, (O5.a 2), _, (O5.a 3), _, (O5.a 4), ?_⟩
 obtain ⟨hp29, H⟩ := H
 obtain ⟨r27, hr28, H⟩ := qad H
 refine (qcw.con hp29 hr28 (R0_0.ext hB) hc0_0 (R0_1.ext hB) hc0_1 (R0_2.ext hB) hc0_2).mono ?_
 rintro _ w30 ⟨A32, c33, A34, c35, F38, A36, c37, rfl, P8, P9, P10, N9_10, e31⟩
 have N8_7 := P8.qa8 O7.lt
 have N9_6 := P9.qeT O6 (Nat.le_refl _)
 have N9_7 := P9.qeT O7 (Nat.le_refl _)
 have N10_6 := P10.qa8 O6.lt
 have N10_7 := P10.qa8 O7.lt
 have O5 := O5.ext e31
 have O6 := O6.ext e31
 have O7 := O7.ext e31
 have O8 := P8.mono hB.size
 have O9 := P9.mono hB.size
 have O10 := P10.mono hB.size
 have hB := qa5 hB e31
 refine ⟨A32, r27.Code.length, c33, trivial, A34, r27.Warps.length, c35, trivial, A36, r27.Memory.length, c37, trivial, r27.Waiting, trivial, r27.Phase, trivial, rfl, ?_⟩
 refine qax (fun g11_ w39 L11 P11 e40 => ?_)
 have N5_11 := O5.ne L11
 have N6_11 := O6.ne L11
 have N7_11 := O7.ne L11
 have N8_11 := O8.qag L11
 have N9_11 := O9.qcv L11
 have N10_11 := O10.qag L11
 have O8 := O8.ext e40
 have O10 := O10.ext e40
 have O11 := P11
 have L11 := Nat.le_trans hB.size L11
 have hB := qa5 hB e40
 refine qbI O11 (o := 0) (cs' := (bC A32 c33 A34 c35 A36 c37 r27)) rfl rfl (Nat.le_of_ble_eq_true rfl) rfl (fun w41 O11 e42 => ?_)
 have O5 := (O5.ext e40).chg e42 N5_11
 have O8_ := O8.chg e42 N8_11
 have O10_ := O10.chg e42 N10_11
 have hB := echg hB e42 L11
 refine ⟨_, _, _, (O5.a 0), _, _, _, (O5.a 1), _, _, _, (O5.a 2), _, (O5.a 3), _, (O5.a 4), ?_⟩
 obtain ⟨hp45, H⟩ := H
 obtain ⟨r43, hr44, H⟩ := qad H
 refine (qbl.con hp45 hr44 (R0_0.ext hB) hc0_0 (R0_1.ext hB) hc0_1 (R0_2.ext hB) hc0_2).mono ?_
 rintro _ w46 ⟨rfl, e47⟩
 have O6 := ((O6.ext e40).chg e42 N6_11).ext e47
 have O7 := ((O7.ext e40).chg e42 N7_11).ext e47
 have O8 := O8_.ext e47
 have O9 := ((O9.ext e40).chg e42 N9_11).ext e47
 have O10 := O10_.ext e47
 have O11 := O11.ext e47
 have hB := qa5 hB e47
 refine ⟨r43, rfl, ?_⟩
 refine brc H (fun h H => ?_) fun h H => ?_
 ·refine ⟨_, _, _, (O11.a 0), _, _, _, (O11.a 1), _, _, _, (O11.a 2), _, (O11.a 3), _, (O11.a 4), ?_⟩
  refine qbI O7 (o := 0) (cs' := (bC A32 c33 A34 c35 A36 c37 r27)) rfl rfl (Nat.le_of_ble_eq_true rfl) rfl (fun w48 O7 e49 => ?_)
  have O8 := O8.chg e49 N8_7
  have O9 := O9.chg e49 N9_7
  have O10 := O10.chg e49 N10_7
  have hB := echg hB e49 L7
  refine ⟨_, _, _, (O7.a 0), _, _, _, (O7.a 1), _, _, _, (O7.a 2), _, (O7.a 3), _, (O7.a 4), ?_⟩
  cases hr.trans H.symm
  exact ⟨A32, c33, A34, c35, F38, A36, c37, rfl, O8, O9, O10, N9_10, hB⟩
 refine ⟨_, _, _, (O6.a 0), ?_⟩
 refine brc H (fun h H => ?_) fun h H => ?_
 ·refine ⟨_, _, _, (O11.a 0), _, _, _, (O11.a 1), _, _, _, (O11.a 2), _, (O11.a 3), _, (O11.a 4), ?_⟩
  refine qbI O7 (o := 0) (cs' := (bC A32 c33 A34 c35 A36 c37 r27)) rfl rfl (Nat.le_of_ble_eq_true rfl) rfl (fun w50 O7 e51 => ?_)
  have O8 := O8.chg e51 N8_7
  have O9 := O9.chg e51 N9_7
  have O10 := O10.chg e51 N10_7
  have hB := echg hB e51 L7
  refine ⟨_, _, _, (O7.a 0), _, _, _, (O7.a 1), _, _, _, (O7.a 2), _, (O7.a 3), _, (O7.a 4), ?_⟩
  cases hr.trans H.symm
  exact ⟨A32, c33, A34, c35, F38, A36, c37, rfl, O8, O9, O10, N9_10, hB⟩
 obtain ⟨hp54, H⟩ := H
 obtain ⟨r52, hr53, H⟩ := qad H
 refine (qaF.con hp54 hr53 O11 O8.row O8.le (O9.mono (Nat.zero_le _)) (O10.mono (Nat.zero_le _)) O6 (R1.ext hB) hc1 N9_10 (fun hS_ => hS_.elim N9_6 (fun hS_ => hS_.elim (N10_6).inb (N6_11))) (fun _ => (fun g h_ => (fun hS_ => hS_.elim (((O9.qhk O8 (by decide) (by decide) (by decide))).symm g h_) (fun hS_ => hS_.elim (((Own.qaq O8 O10 (by decide))).inb g h_) ((qcg N8_11) g h_))))) (fun hx_ => (fun g h_ => (fun hS_ => hS_.elim ((fun g h_ hS_ => Nat.not_le.2 (R1.old hx_ g h_) (O9.lowW g hS_)) g h_) (fun hS_ => hS_.elim ((fun g h_ hS_ => Nat.not_le.2 (R1.old hx_ g h_) (O10.low g hS_)) g h_) ((fun g h_ hS_ => Nat.not_le.2 (R1.old hx_ g h_) (qfS L11 _ hS_)) g h_)))))).mono ?_
 rintro _ w55 ⟨A58, c59, F60, rfl, Q11, hq57, Q12, Mv12, Q10, hl61, e56⟩
 simp only [bC, wC, hq57] at Q11
 try dsimp only at hl61
 have N12_10 := Mv12.dis N9_10 O10.oldA
 have Lw12 := Mv12.low O9.lowW hB.size
 have O7 := O7.chgS e56 (fun hS_ => hS_.elim N9_7 (fun hS_ => hS_.elim (N10_7).inb (N7_11)))
 have O8 := O8.chgS e56 (fun g h_ => (fun hS_ => hS_.elim (((O9.qhk O8 (by decide) (by decide) (by decide))).symm g h_) (fun hS_ => hS_.elim (((Own.qaq O8 O10 (by decide))).inb g h_) ((qcg N8_11) g h_))))
 have hB := Chg.ext hB e56 (fun g => (fun hS_ => hS_.elim (O9.lowW g) (fun hS_ => hS_.elim (O10.low g) ((qfS L11) g))))
 have O11 := Q11
 have O12 := Q12.lift Lw12
 refine ⟨r52.1, rfl, _, _, _, (O11.a 0), _, _, _, (O11.a 1), _, _, _, (O11.a 2), _, (O11.a 3), _, (O11.a 4), ?_⟩
 refine stB O7 0 #[(sv A32 r27.Code.length c33), (sv A58 r52.2.Warps.length c59), (sv A36 r27.Memory.length c37), (iv r52.2.Waiting), (iv r52.2.Phase)] (fun w62 P7 e63 => ?_)
 have O8 := O8.chg e63 N8_7
 have O10 := (Q10.up O10).chg e63 N10_7
 have O12 := O12.chg e63 (O12.qda O7 (by decide) (by decide) (by decide))
 have hB := echg hB e63 L7
 have O7 := P7
 refine ⟨_, _, _, (O7.a 0), _, _, _, (O7.a 1), _, _, _, (O7.a 2), _, (O7.a 3), _, (O7.a 4), ?_⟩
 cases hr.trans H.symm
 exact ⟨A32, c33, A58, c59, F60, A36, c37, (by first | rfl | (simp; done) | (simp; omega) | (simp [*]; done)), (by first | exact O8 | (simp only [bC, wC, List.length_set]; exact O8)), (by first | exact O12 | (simp only [bC, wC, List.length_set]; exact O12)), (by first | exact O10 | (simp only [bC, wC, List.length_set]; exact O10)), N12_10, hB⟩
def qdg.vc (A0_0 : OA) (n0_0 c0_0 : Nat) (A0_1 : OA) (n0_1 c0_1 : Nat) (A0_2 : OA) (n0_2 c0_2 : Nat) (x0_3 x0_4 x1 x2 : Int) (w : World) (K : VK) : Prop :=
  newK w (.cells (vB A0_0 n0_0 c0_0 A0_1 n0_1 c0_1 A0_2 n0_2 c0_2 x0_3 x0_4) 33) fun g21 w22 => newK w22 (.cells zC 33) fun g23 w24 => qdA (σ := Int × Unit) (fun z25 w26 next27 => qa1 (decide (z25.1 < x2)) (ldB w26 (bx g21) fun A28 n29 c30 A31 n32 c33 A34 n35 c36 n37 n38 => Cl 163 #[(.agg (vB A28 n29 c30 A31 n32 c33 A34 n35 c36 n37 n38)), (iv (wrap .i64 (z25.1 * x1)))] w26 fun v39 w40 => (∃ (n41 : Int), v39 = (iv n41) ∧ qa1 (decide (n41 < 0)) (ldB w40 (bx g21) fun A42 n43 c44 A45 n46 c47 A48 n49 c50 n51 n52 => qa7 (bx g23) [(sv A42 n43 c44), (sv A45 n46 c47), (sv A48 n49 c50), (iv n51), (iv n52)] 0 w40 fun w53 => ldB w53 (bx g23) fun A54 n55 c56 A57 n58 c59 A60 n61 c62 n63 n64 => K (.agg (vB A54 n55 c56 A57 n58 c59 A60 n61 c62 n63 n64)) w53) (ldI w40 (((bx g21).add 4).add 0) fun n65 => qa1 (n65 == 100000) (ldB w40 (bx g21) fun A66 n67 c68 A69 n70 c71 A72 n73 c74 n75 n76 => qa7 (bx g23) [(sv A66 n67 c68), (sv A69 n70 c71), (sv A72 n73 c74), (iv n75), (iv n76)] 0 w40 fun w77 => ldB w77 (bx g23) fun A78 n79 c80 A81 n82 c83 A84 n85 c86 n87 n88 => K (.agg (vB A78 n79 c80 A81 n82 c83 A84 n85 c86 n87 n88)) w77) (ldB w40 (bx g21) fun A89 n90 c91 A92 n93 c94 A95 n96 c97 n98 n99 => Cl 164 #[(.agg (vB A89 n90 c91 A92 n93 c94 A95 n96 c97 n98 n99)), (iv n41)] w40 fun v100 w101 => (∃ (A102 : OA) (n103 c104 : Nat), True ∧ ∃ (A105 : OA) (n106 c107 : Nat), True ∧ ∃ (A108 : OA) (n109 c110 : Nat), True ∧ ∃ (n111 : Int), True ∧ ∃ (n112 : Int), True ∧ v100 = (.agg (vB A102 n103 c104 A105 n106 c107 A108 n109 c110 n111 n112)) ∧ qa7 (bx g21) [(sv A102 n103 c104), (sv A105 n106 c107), (sv A108 n109 c110), (iv n111), (iv n112)] 0 w101 fun w113 => next27 ((wrap .i64 (z25.1 + 1)), ()) w113))))) (ldB w26 (bx g21) fun A114 n115 c116 A117 n118 c119 A120 n121 c122 n123 n124 => qa7 (bx g23) [(sv A114 n115 c116), (sv A117 n118 c119), (sv A120 n121 c122), (iv n123), (iv n124)] 0 w26 fun w125 => ldB w125 (bx g23) fun A126 n127 c128 A129 n130 c131 A132 n133 c134 n135 n136 => K (.agg (vB A126 n127 c128 A129 n130 c131 A132 n133 c134 n135 n136)) w125)) (0, ()) w24

def qdg.ann : Ann := (.seq .l (.seq (.seq .l (.one (.loop [(7, .int .i64)] (.seq (.seq .l (.two .l .l)) (.seq (.one (.seq .l (.seq (.seq .l (.two .l .l)) .l))) .l))))) (.seq .l .l)))

theorem qdg.con {s0 r : D.Block} {A0_0 A0_1 A0_2 : OA} {c0_0 B_ c0_1 c0_2 : Nat} {F0_1 : Nat → Prop} {x1 x2 : Int} {w : World} (hp : M.qgI s0 x1 x2) (hr : r = M.qdg s0 x1 x2) (O1 : Own el84 w B_ A0_0 c0_0 s0.Code) (hB_ : B_ ≤ w.heap.size) (O2 : OwnW 52 el91 el3 w B_ F0_1 A0_1 c0_1 s0.Warps) (O3 : Own el3 w B_ A0_2 c0_2 s0.Memory) (N2_3 : Dis (InW A0_1 F0_1) (InB A0_2)) :
    Cl 118 #[(.agg (bC A0_0 c0_0 A0_1 c0_1 A0_2 c0_2 s0)), (iv x1), (iv x2)] w (fun v_ w_ => ∃ (A0_ : OA) (c0_ : Nat) (A1_ : OA) (c1_ : Nat) (F1_ : Nat → Prop) (A2_ : OA) (c2_ : Nat), v_ = (.agg (bC A0_ c0_ A1_ c1_ A2_ c2_ r)) ∧ Own el84 w_ B_ A0_ c0_ r.Code ∧ OwnW 52 el91 el3 w_ B_ F1_ A1_ c1_ r.Warps ∧ Own el3 w_ B_ A2_ c2_ r.Memory ∧ Dis (InW A1_ F1_) (InB A2_) ∧ Ext w w_) := by
 have H := wp.qdg.math s0 x1 x2 hp
 have hB := Ext.refl w
 refine begK mixed Tryz.f118 ann (vc A0_0 s0.Code.length c0_0 A0_1 s0.Warps.length c0_1 A0_2 s0.Memory.length c0_2 s0.Waiting s0.Phase x1 x2) ?_
 unfold vc
 unfold wp.qdg at H
 refine qax (fun g4_ w21 L4 P4 e22 => ?_)
 have O4 := P4
 have L4 := Nat.le_trans hB.size L4
 have hB := qa5 hB e22
 refine qax (fun g5_ w23 L5 P5 e24 => ?_)
 have N4_5 := O4.ne L5
 have O1 := (O1.ext e22).ext e24
 have O2 := (O2.ext e22).ext e24
 have O3 := (O3.ext e22).ext e24
 have O4 := O4.ext e24
 have O5 := P5
 have L5 := Nat.le_trans hB.size L5
 have hB := qa5 hB e24
 obtain ⟨J99, ⟨m136, hJ135⟩, hS100⟩ := H
 refine ⟨fun m_ z_ w_ => ∃ (i85 : Int) (xs86 : List D.Ins) (xs90 : List D.Warp) (xs93 : List Int) (i96 i97 : Int) (A87 : OA) (c88 : Nat) (A91 : OA) (c92 : Nat) (F89 : Nat → Prop) (A94 : OA) (c95 : Nat), z_ = (i85, ()) ∧ J99 m_ (i85, xs86, xs90, xs93, i96, i97, ()) ∧ Ext w w_ ∧ Blk w_ g4_ 33 #[(sv A87 xs86.length c88), (sv A91 xs90.length c92), (sv A94 xs93.length c95), (iv i96), (iv i97)] ∧ Own el84 w_ B_ A87 c88 xs86 ∧ OwnW 52 el91 el3 w_ B_ F89 A91 c92 xs90 ∧ Own el3 w_ B_ A94 c95 xs93 ∧ Blk w_ g5_ 33 zC ∧ Dis (InW A91 F89) (InB A94), ⟨m136, 0, s0.Code, s0.Warps, s0.Memory, s0.Waiting, s0.Phase, A0_0, c0_0, A0_1, c0_1, F0_1, A0_2, c0_2, rfl, hJ135, hB, O4, O1, O2, O3, O5, N2_3⟩, ?_⟩
 rintro m98 _ w102 ⟨i85, xs86, xs90, xs93, i96, i97, A87, c88, A91, c92, F89, A94, c95, rfl, hJ137, hB, O4, O12, O13, O14, O5, N13_14⟩
 have H := hS100 m98 _ hJ137
 clear hS100 hJ137
 try dsimp only at H ⊢
 refine brc H (fun h H => ?_) fun h H => ?_
 ·refine ⟨_, _, _, (O4.a 0), _, _, _, (O4.a 1), _, _, _, (O4.a 2), _, (O4.a 3), _, (O4.a 4), ?_⟩
  obtain ⟨hp105, H⟩ := H
  obtain ⟨r103, hr104, H⟩ := qad H
  refine (qdt.con hp105 hr104 O12.row O12.le O13.row O13.le O14.row O14.le).mono ?_
  rintro _ w106 ⟨rfl, e107⟩
  have O4 := O4.ext e107
  have O5 := O5.ext e107
  have O12 := O12.ext e107
  have O13 := O13.ext e107
  have O14 := O14.ext e107
  have hB := qa5 hB e107
  refine ⟨r103, rfl, ?_⟩
  refine brc H (fun h H => ?_) fun h H => ?_
  ·refine ⟨_, _, _, (O4.a 0), _, _, _, (O4.a 1), _, _, _, (O4.a 2), _, (O4.a 3), _, (O4.a 4), ?_⟩
   refine stB O5 0 #[(sv A87 xs86.length c88), (sv A91 xs90.length c92), (sv A94 xs93.length c95), (iv i96), (iv i97)] (fun w108 P5 e109 => ?_)
   have O12 := O12.chg e109 (O12.qa6 O5 (by decide))
   have O13 := O13.chg e109 (O13.qda O5 (by decide) (by decide) (by decide))
   have O14 := O14.chg e109 (O14.qa6 O5 (by decide))
   have hB := echg hB e109 L5
   have O5 := P5
   refine ⟨_, _, _, (O5.a 0), _, _, _, (O5.a 1), _, _, _, (O5.a 2), _, (O5.a 3), _, (O5.a 4), ?_⟩
   cases hr.trans H.symm
   exact ⟨A87, c88, A91, c92, F89, A94, c95, rfl, O12, O13, O14, N13_14, hB⟩
  refine ⟨_, (O4.a 4), ?_⟩
  refine brc H (fun h H => ?_) fun h H => ?_
  ·refine ⟨_, _, _, (O4.a 0), _, _, _, (O4.a 1), _, _, _, (O4.a 2), _, (O4.a 3), _, (O4.a 4), ?_⟩
   refine stB O5 0 #[(sv A87 xs86.length c88), (sv A91 xs90.length c92), (sv A94 xs93.length c95), (iv i96), (iv i97)] (fun w110 P5 e111 => ?_)
   have O12 := O12.chg e111 (O12.qa6 O5 (by decide))
   have O13 := O13.chg e111 (O13.qda O5 (by decide) (by decide) (by decide))
   have O14 := O14.chg e111 (O14.qa6 O5 (by decide))
   have hB := echg hB e111 L5
   have O5 := P5
   refine ⟨_, _, _, (O5.a 0), _, _, _, (O5.a 1), _, _, _, (O5.a 2), _, (O5.a 3), _, (O5.a 4), ?_⟩
   cases hr.trans H.symm
   exact ⟨A87, c88, A91, c92, F89, A94, c95, rfl, O12, O13, O14, N13_14, hB⟩
  refine ⟨_, _, _, (O4.a 0), _, _, _, (O4.a 1), _, _, _, (O4.a 2), _, (O4.a 3), _, (O4.a 4), ?_⟩
  obtain ⟨hp114, H⟩ := H
  obtain ⟨r112, hr113, H⟩ := qad H
  refine (qds.con hp114 hr113 O12.row O12.le O13.row O13.le O14.row O14.le).mono ?_
  rintro _ w115 ⟨A117, c118, A119, c120, F123, A121, c122, rfl, P15, P16, P17, N16_17, e116⟩
  have N15_4 := P15.qa8 O4.lt
  have N16_4 := P16.qeT O4 (Nat.le_refl _)
  have N17_4 := P17.qa8 O4.lt
  have O4 := O4.ext e116
  have O15 := P15.mono hB.size
  have O16 := P16.mono hB.size
  have O17 := P17.mono hB.size
  have hB := qa5 hB e116
  refine ⟨A117, r112.Code.length, c118, trivial, A119, r112.Warps.length, c120, trivial, A121, r112.Memory.length, c122, trivial, r112.Waiting, trivial, r112.Phase, trivial, rfl, ?_⟩
  refine stB O4 0 (bC A117 c118 A119 c120 A121 c122 r112) (fun w124 P4 e125 => ?_)
  have O5 := (O5.ext e116).chg e125 (N4_5).symm
  have O15 := O15.chg e125 N15_4
  have O16 := O16.chg e125 N16_4
  have O17 := O17.chg e125 N17_4
  have hB := echg hB e125 L4
  have O4 := P4
  obtain ⟨m126, hm127, hJ128⟩ := H
  exact ⟨m126, hm127, _, _, _, _, _, _, A117, c118, A119, c120, F123, A121, c122, rfl, hJ128, hB, O4, (O15.mono hB_), (O16.mono hB_), (O17.mono hB_), O5, N16_17⟩
 refine ⟨_, _, _, (O4.a 0), _, _, _, (O4.a 1), _, _, _, (O4.a 2), _, (O4.a 3), _, (O4.a 4), ?_⟩
 refine stB O5 0 #[(sv A87 xs86.length c88), (sv A91 xs90.length c92), (sv A94 xs93.length c95), (iv i96), (iv i97)] (fun w131 P5 e132 => ?_)
 have O12 := O12.chg e132 (O12.qa6 O5 (by decide))
 have O13 := O13.chg e132 (O13.qda O5 (by decide) (by decide) (by decide))
 have O14 := O14.chg e132 (O14.qa6 O5 (by decide))
 have hB := echg hB e132 L5
 have O5 := P5
 refine ⟨_, _, _, (O5.a 0), _, _, _, (O5.a 1), _, _, _, (O5.a 2), _, (O5.a 3), _, (O5.a 4), ?_⟩
 cases hr.trans H.symm
 exact ⟨A87, c88, A91, c92, F89, A94, c95, rfl, O12, O13, O14, N13_14, hB⟩
end Go.V
