import Derived.Test.YtdjkglkcohknbaaGreatKCsCon2
namespace Go.V
open Go.Proofs
set_option linter.unusedVariables false
set_option linter.unusedSimpArgs false
set_option maxRecDepth 100000
def spec_l05Body.vc (p0 : Addr) (A1 : Option Addr) (n1 : Nat) (c1 : Nat) (x2 : Int) (w : World) (K : Value → World → Prop) : Prop :=
  Cll Tryz.prog 62 #[(.pointer (some p0)), (.int .i64 4)] w fun v21 w22 => (∃ (n23 : Int), v21 = (.int .i64 n23) ∧ LoopT (σ := (Option Addr × Nat × Nat) × Int × Unit) (fun z24 w25 next26 => bcase (decide (z24.2.1 > 0)) (bcase (decide (((z24.1.2.1 : Nat) : Int) < 20)) (Cll Tryz.prog 62 #[(.pointer (some p0)), (.int .i64 5)] w25 fun v28 w29 => (∃ (n30 : Int), v28 = (.int .i64 n30) ∧ bcase (n30 == 0) (bcase (x2 == 0) (next26 ((z24.1.1, z24.1.2.1, z24.1.2.2), (IntKind.wrap .i64 (z24.2.1 - 1)), ()) w29) (Cll Tryz.prog 62 #[(.pointer (some p0)), (.int .i64 4)] w29 fun v31 w32 => (∃ (n33 : Int), v31 = (.int .i64 n33) ∧ Run Tryz.prog (Instr.buildSlice 24 1 #[(0, (.agg #[(.int .i64 10), (.int .i64 n33), (.int .i64 0), (.int .i64 0)]))]) w32 fun v34 w35 => ∃ (A36 : Option Addr) (n37 c38 : Nat), v34 = .slice A36 n37 c38 ∧ Run Tryz.prog (Builtin.append_ #[24, 24] 24 #[(.slice z24.1.1 z24.1.2.1 z24.1.2.2), (.slice A36 n37 c38)]) w35 fun v39 w40 => ∃ (A41 : Option Addr) (n42 c43 : Nat), v39 = .slice A41 n42 c43 ∧ Cll Tryz.prog 113 #[(.pointer (some p0)), (.slice A41 n42 c43), (.int .i64 (IntKind.wrap .i64 (x2 - 1)))] w40 fun v44 w45 => (∃ (A46 : Option Addr) (n47 : Nat) (c48 : Nat), v44 = (.slice A46 n47 c48) ∧ Cll Tryz.prog 112 #[(.pointer (some p0)), (.int .i64 2)] w45 fun v49 w50 => (∃ (b51 : Bool), v49 = (.bool b51) ∧ bcase b51 (((0 : Int) ≤ ((z24.1.2.1 : Nat) : Int) ∧ ((z24.1.2.1 : Nat) : Int) < ((n47 : Nat) : Int) ∧ ∃ a52 : Addr, A46 = some a52 ∧ stCells ((a52.add ((((z24.1.2.1 : Nat) : Int).toNat) * 4)).add 2) [(.int .i64 ((n47 : Nat) : Int))] 0 w50 fun w53 => next26 ((A46, n47, c48), (IntKind.wrap .i64 (z24.2.1 - 1)), ()) w53)) (Run Tryz.prog (Instr.buildSlice 24 1 #[(0, (.agg #[(.int .i64 11), (.int .i64 0), (.int .i64 0), (.int .i64 0)]))]) w50 fun v54 w55 => ∃ (A56 : Option Addr) (n57 c58 : Nat), v54 = .slice A56 n57 c58 ∧ Run Tryz.prog (Builtin.append_ #[24, 24] 24 #[(.slice A46 n47 c48), (.slice A56 n57 c58)]) w55 fun v59 w60 => ∃ (A61 : Option Addr) (n62 c63 : Nat), v59 = .slice A61 n62 c63 ∧ ((0 : Int) ≤ ((z24.1.2.1 : Nat) : Int) ∧ ((z24.1.2.1 : Nat) : Int) < ((n62 : Nat) : Int) ∧ ∃ a64 : Addr, A61 = some a64 ∧ stCells ((a64.add ((((z24.1.2.1 : Nat) : Int).toNat) * 4)).add 2) [(.int .i64 ((n62 : Nat) : Int))] 0 w60 fun w65 => Cll Tryz.prog 113 #[(.pointer (some p0)), (.slice A61 n62 c63), (.int .i64 (IntKind.wrap .i64 (x2 - 1)))] w65 fun v66 w67 => (∃ (A68 : Option Addr) (n69 : Nat) (c70 : Nat), v66 = (.slice A68 n69 c70) ∧ ((0 : Int) ≤ ((n47 : Nat) : Int) ∧ ((n47 : Nat) : Int) < ((n69 : Nat) : Int) ∧ ∃ a71 : Addr, A68 = some a71 ∧ stCells ((a71.add ((((n47 : Nat) : Int).toNat) * 4)).add 2) [(.int .i64 ((n69 : Nat) : Int))] 0 w67 fun w72 => next26 ((A68, n69, c70), (IntKind.wrap .i64 (z24.2.1 - 1)), ()) w72))))))))) (bcase (n30 == 1) (bcase (x2 == 0) (next26 ((z24.1.1, z24.1.2.1, z24.1.2.2), (IntKind.wrap .i64 (z24.2.1 - 1)), ()) w29) (bcase (decide (((z24.1.2.1 : Nat) : Int) > 14)) (next26 ((z24.1.1, z24.1.2.1, z24.1.2.2), (IntKind.wrap .i64 (z24.2.1 - 1)), ()) w29) (Run Tryz.prog (Instr.buildSlice 24 1 #[(0, (.agg #[(.int .i64 8), (.int .i64 3), (.int .i64 0), (.int .i64 0)]))]) w29 fun v74 w75 => ∃ (A76 : Option Addr) (n77 c78 : Nat), v74 = .slice A76 n77 c78 ∧ Run Tryz.prog (Builtin.append_ #[24, 24] 24 #[(.slice z24.1.1 z24.1.2.1 z24.1.2.2), (.slice A76 n77 c78)]) w75 fun v79 w80 => ∃ (A81 : Option Addr) (n82 c83 : Nat), v79 = .slice A81 n82 c83 ∧ Run Tryz.prog (Instr.buildSlice 24 1 #[(0, (.agg #[(.int .i64 10), (.int .i64 3), (.int .i64 0), (.int .i64 0)]))]) w80 fun v84 w85 => ∃ (A86 : Option Addr) (n87 c88 : Nat), v84 = .slice A86 n87 c88 ∧ Run Tryz.prog (Builtin.append_ #[24, 24] 24 #[(.slice A81 n82 c83), (.slice A86 n87 c88)]) w85 fun v89 w90 => ∃ (A91 : Option Addr) (n92 c93 : Nat), v89 = .slice A91 n92 c93 ∧ Run Tryz.prog (Instr.buildSlice 24 3 #[(0, (.agg #[(.int .i64 3), (.int .i64 0), (.int .i64 0), (.int .i64 1)])), (1, (.agg #[(.int .i64 1), (.int .i64 2), (.int .i64 1), (.int .i64 0)])), (2, (.agg #[(.int .i64 4), (.int .i64 3), (.int .i64 3), (.int .i64 2)]))]) w90 fun v94 w95 => ∃ (A96 : Option Addr) (n97 c98 : Nat), v94 = .slice A96 n97 c98 ∧ Run Tryz.prog (Builtin.append_ #[24, 24] 24 #[(.slice A91 n92 c93), (.slice A96 n97 c98)]) w95 fun v99 w100 => ∃ (A101 : Option Addr) (n102 c103 : Nat), v99 = .slice A101 n102 c103 ∧ Run Tryz.prog (Instr.buildSlice 24 1 #[(0, (.agg #[(.int .i64 11), (.int .i64 0), (.int .i64 ((n82 : Nat) : Int)), (.int .i64 0)]))]) w100 fun v104 w105 => ∃ (A106 : Option Addr) (n107 c108 : Nat), v104 = .slice A106 n107 c108 ∧ Run Tryz.prog (Builtin.append_ #[24, 24] 24 #[(.slice A101 n102 c103), (.slice A106 n107 c108)]) w105 fun v109 w110 => ∃ (A111 : Option Addr) (n112 c113 : Nat), v109 = .slice A111 n112 c113 ∧ ((0 : Int) ≤ ((n82 : Nat) : Int) ∧ ((n82 : Nat) : Int) < ((n112 : Nat) : Int) ∧ ∃ a114 : Addr, A111 = some a114 ∧ stCells ((a114.add ((((n82 : Nat) : Int).toNat) * 4)).add 2) [(.int .i64 ((n112 : Nat) : Int))] 0 w110 fun w115 => next26 ((A111, n112, c113), (IntKind.wrap .i64 (z24.2.1 - 1)), ()) w115)))) (Cll Tryz.prog 124 #[(.pointer (some p0))] w29 fun v116 w117 => (∃ (n118 : Int), True ∧ ∃ (n119 : Int), True ∧ ∃ (n120 : Int), True ∧ ∃ (n121 : Int), True ∧ v116 = (.agg #[(.int .i64 n118), (.int .i64 n119), (.int .i64 n120), (.int .i64 n121)]) ∧ Run Tryz.prog (Instr.buildSlice 24 1 #[(0, (.agg #[(.int .i64 n118), (.int .i64 n119), (.int .i64 n120), (.int .i64 n121)]))]) w117 fun v122 w123 => ∃ (A124 : Option Addr) (n125 c126 : Nat), v122 = .slice A124 n125 c126 ∧ Run Tryz.prog (Builtin.append_ #[24, 24] 24 #[(.slice z24.1.1 z24.1.2.1 z24.1.2.2), (.slice A124 n125 c126)]) w123 fun v127 w128 => ∃ (A129 : Option Addr) (n130 c131 : Nat), v127 = .slice A129 n130 c131 ∧ next26 ((A129, n130, c131), (IntKind.wrap .i64 (z24.2.1 - 1)), ()) w128))))) (K (.slice z24.1.1 z24.1.2.1 z24.1.2.2) w25)) (K (.slice z24.1.1 z24.1.2.1 z24.1.2.2) w25)) ((A1, n1, c1), n23, ()) w22)

def spec_l05Body.ann : Ann := (.seq .l (.seq (.seq .l (.one (.loop [(1, .sl), (7, .int .i64)] (.seq (.seq .l (.two .l .l)) (.seq (.one (.seq .l (.one (.seq .l (.two (.seq (.seq .l (.two .l .l)) (.seq .l (.seq .l (.seq .l (.seq .l (.seq (.seq .l (.two (.seq .l .l) .l)) (.seq .l (.seq .l (.seq .l (.seq .l .l)))))))))) (.seq .l (.two (.seq (.seq .l (.two .l .l)) (.seq .l (.seq .l (.seq .l (.seq .l (.seq .l .l)))))) .l))))))) .l))))) (.seq .l .l)))

theorem spec_l05Body.start {p0 : Addr} {A1 : Option Addr} {n1 : Nat} {c1 : Nat} {x2 : Int} {w : World} {K : Value → World → Prop} (h : spec_l05Body.vc p0 A1 n1 c1 x2 w K) : Cll Tryz.prog 113 #[(.pointer (some p0)), (.slice A1 n1 c1), (.int .i64 x2)] w K :=
  vcF_sound mixed (fn := Tryz.f113) (by kernel_rfl) (by kernel_rfl) (an := spec_l05Body.ann) (args := [(.pointer (some p0)), (.slice A1 n1 c1), (.int .i64 x2)]) (Eq.mpr (by kernel_rfl) h)

theorem spec_l05Body.con_ (n_ : Nat) : ∀ {s0 : D.Cur} {g1_ : Nat} {A0_0 : Option Addr} {c0_0 : Nat} {xs1 : List D.Ins} {A1 : Option Addr} {c1 : Nat} {x2 : Int} {r : (List D.Ins) × D.Cur} {w : World} (hp : M.spec_l05Body_pre s0 xs1 x2) (hr : r = M.spec_l05Body s0 xs1 x2) (O1 : Blk w g1_ 123 #[(.slice A0_0 s0.b.length c0_0), (.int .i64 s0.i), (.int .i64 s0.h)]) (R0_0 : Row el5 w A0_0 s0.b) (hc0_0 : s0.b.length ≤ c0_0) (O3 : Own el91 w 0 A1 c1 xs1) (D0_0 : s0.b ≠ [] → ∀ g, InB A0_0 g → ¬ (fun k_ => k_ = g1_ ∨ InB A1 k_) g), (x2).toNat = n_ →
    Cll Tryz.prog 113 #[(.pointer (some (⟨g1_, 0, none⟩ : Addr))), (.slice A1 xs1.length c1), (.int .i64 x2)] w (fun v_ w_ => ∃ (A0_ : Option Addr) (c0_ : Nat), v_ = (.slice A0_ r.1.length c0_) ∧ Own el91 w_ 0 A0_ c0_ r.1 ∧ Mov w A1 A0_ ∧ Blk w_ g1_ 123 #[(.slice A0_0 r.2.b.length c0_0), (.int .i64 r.2.i), (.int .i64 r.2.h)] ∧ r.2.b = s0.b ∧ Chg (fun k_ => k_ = g1_ ∨ InB A1 k_) w w_) := by
  induction n_ using Nat.strongRecOn with
  | ind n_ IH_ =>
  intro s0 g1_ A0_0 c0_0 xs1 A1 c1 x2 r w hp hr O1 R0_0 hc0_0 O3 D0_0 hn_
  have H := wp.spec_l05Body.math s0 xs1 x2 hp
  have hB := Chg.refl (fun k_ => k_ = g1_ ∨ InB A1 k_) w
  refine spec_l05Body.start ?_
  unfold spec_l05Body.vc
  unfold wp.spec_l05Body at H
  obtain ⟨hp23, H⟩ := H
  obtain ⟨r21, hr22⟩ : ∃ r_, r_ = M.spec_l01Below s0 4 := ⟨_, rfl⟩
  have H := H r21 hr22
  refine (spec_l01Below.con hp23 hr22 O1 (R0_0.chgS hB D0_0) hc0_0 (fun hx_ => (fun g h_ hS_ => D0_0 hx_ g h_ (Or.inl hS_)))).mono ?_
  rintro _ w24 ⟨rfl, Q1, hq26, e25⟩
  rw [hq26] at Q1
  have O3 := O3.chgS e25 (box_inb (O3.apart_type O1 (by decide)))
  have hB := hB.chg e25 (fun g h_ => Or.inr (Or.inl h_))
  have O1 := Q1
  refine ⟨r21.1, rfl, ?_⟩
  obtain ⟨J49, ⟨m212, hJ211⟩, hS50⟩ := H
  refine ⟨fun m_ z_ w_ => ∃ (xs42 : List D.Ins) (i45 : Int) (i46 : Int) (i47 : Int) (A43 : Option Addr) (c44 : Nat), z_ = ((A43, xs42.length, c44), i45, ()) ∧ J49 m_ (xs42, i45, i46, i47, ()) ∧ Chg (fun k_ => k_ = g1_ ∨ InB A1 k_) w w_ ∧ Own el91 w_ 0 A43 c44 xs42 ∧ Mov w A1 A43 ∧ Blk w_ g1_ 123 #[(.slice A0_0 s0.b.length c0_0), (.int .i64 i46), (.int .i64 i47)], ⟨m212, xs1, r21.1, r21.2.i, r21.2.h, A1, c1, rfl, hJ211, hB, O3, (Mov.same _ _), O1⟩, ?_⟩
  rintro m48 _ w52 ⟨xs42, i45, i46, i47, A43, c44, rfl, hJ213, hB, O5, Mv5, O1⟩
  have H := hS50 m48 _ hJ213
  clear hS50 hJ213
  try dsimp only at H ⊢
  refine bcase_mk (fun hc209 => ?_) (fun hc209 => ?_)
  · have H := (bcase_iff.1 H).1 hc209
    refine bcase_mk (fun hc208 => ?_) (fun hc208 => ?_)
    · have H := (bcase_iff.1 H).1 hc208
      obtain ⟨hp55, H⟩ := H
      obtain ⟨r53, hr54⟩ : ∃ r_, r_ = M.spec_l01Below (⟨s0.b, i46, i47⟩ : D.Cur) 5 := ⟨_, rfl⟩
      have H := H r53 hr54
      refine (spec_l01Below.con hp55 hr54 O1 (R0_0.chgS hB D0_0) hc0_0 (fun hx_ => (fun g h_ hS_ => D0_0 hx_ g h_ (Or.inl hS_)))).mono ?_
      rintro _ w56 ⟨rfl, Q1, hq58, e57⟩
      rw [hq58] at Q1
      have O5 := O5.chgS e57 (box_inb (O5.apart_type O1 (by decide)))
      have hB := hB.chg e57 (fun g h_ => Or.inr (Or.inl h_))
      have O1 := Q1
      refine ⟨r53.1, rfl, ?_⟩
      refine bcase_mk (fun hc207 => ?_) (fun hc207 => ?_)
      · have H := (bcase_iff.1 H).1 hc207
        refine bcase_mk (fun hc137 => ?_) (fun hc137 => ?_)
        · have H := (bcase_iff.1 H).1 hc137
          obtain ⟨m59, hm60, hJ61⟩ := H
          exact ⟨m59, hm60, xs42, (IntKind.wrap .i64 (i45 - 1)), r53.2.i, r53.2.h, A43, c44, rfl, hJ61, hB, O5, Mv5, O1⟩
        have H := (bcase_iff.1 H).2 hc137
        obtain ⟨hp64, H⟩ := H
        obtain ⟨r62, hr63⟩ : ∃ r_, r_ = M.spec_l01Below (⟨s0.b, r53.2.i, r53.2.h⟩ : D.Cur) 4 := ⟨_, rfl⟩
        have H := H r62 hr63
        refine (spec_l01Below.con hp64 hr63 O1 (R0_0.chgS hB D0_0) hc0_0 (fun hx_ => (fun g h_ hS_ => D0_0 hx_ g h_ (Or.inl hS_)))).mono ?_
        rintro _ w65 ⟨rfl, Q1, hq67, e66⟩
        rw [hq67] at Q1
        have O5 := O5.chgS e66 (box_inb (O5.apart_type O1 (by decide)))
        have hB := hB.chg e66 (fun g h_ => Or.inr (Or.inl h_))
        have O1 := Q1
        refine ⟨r62.1, rfl, ?_⟩
        refine buildOwn el91 ([(⟨10, r62.1, 0, 0⟩ : D.Ins)] : List D.Ins) (fun _ => by kernel_rfl) rfl (fun A68 w69 P6 e70 => ?_)
        have N6_1 := P6.apart_old O1.lt
        have N5_6 := Own.apart2_new O5 P6 (Nat.le_refl _)
        have O1 := O1.ext e70
        have O5 := O5.ext e70
        have O6 := P6.mono hB.size
        have hB := hB.then e70
        obtain ⟨hl75, H⟩ := H
        refine appOwnB slt24 slt24.under O5 O6.row (Nat.zero_le _) rfl (by first | rfl | omega | (simp; done) | (simp; omega)) hl75 (fun A71 c72 w73 P5 e74 => ?_)
        have N5_1_ := Apart.app (O5.apart_type O1 (by decide)) e74 O1.lt
        have O1 := O1.app e74 (O5.apart_type O1 (by decide))
        have N6_5_ := Apart2.app (N5_6).symm e74 O6
        have O6 := O6.app e74 (N5_6).symm
        have N5_1 := N5_1_
        have N6_5 := N6_5_
        have hBs_ := hB.size
        have hB := hB.app e74 (fun g h_ => (mv_or Mv5 h_ (fun h_ => (Or.inr h_))))
        have O5 := P5
        have Mw5 := Mov.trans Mv5 e74.blk hBs_
        obtain ⟨hp78, H⟩ := H
        obtain ⟨r76, hr77⟩ : ∃ r_, r_ = M.spec_l05Body (⟨s0.b, r62.2.i, r62.2.h⟩ : D.Cur) (xs42 ++ ([(⟨10, r62.1, 0, 0⟩ : D.Ins)] : List D.Ins)) (IntKind.wrap .i64 (x2 - 1)) := ⟨_, rfl⟩
        have H := H r76 hr77
        refine (IH_ _ (by rw [← hn_]; exact spec_l05Body.dec hp (by assumption)) hp78 hr77 O1 (R0_0.chgS hB D0_0) hc0_0 (O5.mono (Nat.zero_le _)) (fun hx_ => (fun g h_ => (fun hS_ => hS_.elim ((fun g h_ hS_ => D0_0 hx_ g h_ (Or.inl hS_)) g h_) ((fun g h_ hS_ => (mv_or Mw5 hS_ (fun h_ => (Or.inr h_))).elim (fun h3_ => Nat.not_le.2 (R0_0.old hx_ g h_) h3_) (D0_0 hx_ g h_)) g h_)))) rfl).mono ?_
        rintro _ w79 ⟨A81, c82, rfl, P7, Mv7, Q1, hq83, e80⟩
        rw [hq83] at Q1
        have Mw7 := Mov.trans Mw5 Mv7 hB.size
        have hB := hB.chg e80 (fun g => (fun hS_ => hS_.elim ((fun g h_ => Or.inr (Or.inl h_)) g) ((fun g h_ => (mv_or Mw5 h_ (fun h_ => (Or.inr h_)))) g)))
        have O1 := Q1
        have O7 := P7
        refine ⟨A81, r76.1.length, c82, rfl, ?_⟩
        obtain ⟨hp86, H⟩ := H
        obtain ⟨r84, hr85⟩ : ∃ r_, r_ = M.spec_l01Once (⟨s0.b, r76.2.i, r76.2.h⟩ : D.Cur) 2 := ⟨_, rfl⟩
        have H := H r84 hr85
        refine (spec_l01Once.con hp86 hr85 O1 (R0_0.chgS hB D0_0) hc0_0 (fun hx_ => (fun g h_ hS_ => D0_0 hx_ g h_ (Or.inl hS_)))).mono ?_
        rintro _ w87 ⟨rfl, Q1, hq89, e88⟩
        rw [hq89] at Q1
        have O7 := O7.chgS e88 (box_inb (O7.apart_type O1 (by decide)))
        have hB := hB.chg e88 (fun g h_ => Or.inr (Or.inl h_))
        have O1 := Q1
        refine ⟨r84.1, rfl, ?_⟩
        refine bcase_mk (fun hc136 => ?_) (fun hc136 => ?_)
        · have H := (bcase_iff.1 H).1 hc136
          obtain ⟨⟨h0_93, h1_94⟩, H⟩ := H
          obtain ⟨a91, ha92, hat90⟩ := Row.at O7.row h0_93 h1_94
          refine ⟨h0_93, h1_94, a91, ha92, ?_⟩
          refine Own.storeAt O7 ha92 h0_93 h1_94 2 [(.int .i64 ((r76.1.length : Nat) : Int))] (⟨(rd r76.1 ((xs42.length : Nat) : Int)).Op, (rd r76.1 ((xs42.length : Nat) : Int)).A, ((r76.1.length : Nat) : Int), (rd r76.1 ((xs42.length : Nat) : Int)).C⟩ : D.Ins) rfl (Nat.le_of_ble_eq_true rfl) rfl (fun w95 P7 e96 hb97 => ?_)
          have O1_ := O1.chg e96 (fun h_ => ((O7.apart_type O1 (by decide))) _ ha92 h_.symm)
          have O1 := O1_
          have hB := hB.chgb e96 (mv_or Mw7 ⟨_, ha92, rfl⟩ (fun h_ => (Or.inr h_)))
          have O7 := P7
          obtain ⟨m98, hm99, hJ100⟩ := H
          exact ⟨m98, hm99, (List.set r76.1 (((xs42.length : Nat) : Int).toNat) (⟨(rd r76.1 ((xs42.length : Nat) : Int)).Op, (rd r76.1 ((xs42.length : Nat) : Int)).A, ((r76.1.length : Nat) : Int), (rd r76.1 ((xs42.length : Nat) : Int)).C⟩ : D.Ins)), (IntKind.wrap .i64 (i45 - 1)), r84.2.i, r84.2.h, A81, c82, (by first | rfl | (simp only [List.length_set])), hJ100, hB, (by first | exact O7 | (simp only [List.length_set]; exact O7)), Mw7, (by first | exact O1 | (simp only [List.length_set]; exact O1))⟩
        have H := (bcase_iff.1 H).2 hc136
        refine buildOwn el91 ([(⟨11, 0, 0, 0⟩ : D.Ins)] : List D.Ins) (fun _ => by kernel_rfl) rfl (fun A101 w102 P8 e103 => ?_)
        have N8_1 := P8.apart_old O1.lt
        have N7_8 := Own.apart2_new O7 P8 (Nat.le_refl _)
        have O1 := O1.ext e103
        have O7 := O7.ext e103
        have O8 := P8.mono hB.size
        have hB := hB.then e103
        obtain ⟨hl108, H⟩ := H
        refine appOwnB slt24 slt24.under O7 O8.row (Nat.zero_le _) rfl (by first | rfl | omega | (simp; done) | (simp; omega)) hl108 (fun A104 c105 w106 P7 e107 => ?_)
        have N7_1_ := Apart.app (O7.apart_type O1 (by decide)) e107 O1.lt
        have O1 := O1.app e107 (O7.apart_type O1 (by decide))
        have N8_7_ := Apart2.app (N7_8).symm e107 O8
        have O8 := O8.app e107 (N7_8).symm
        have N7_1 := N7_1_
        have N8_7 := N8_7_
        have hBs_ := hB.size
        have hB := hB.app e107 (fun g h_ => (mv_or Mw7 h_ (fun h_ => (Or.inr h_))))
        have O7 := P7
        have Mw7 := Mov.trans Mw7 e107.blk hBs_
        obtain ⟨⟨h0_112, h1_113⟩, H⟩ := H
        obtain ⟨a110, ha111, hat109⟩ := Row.at O7.row h0_112 h1_113
        refine ⟨h0_112, h1_113, a110, ha111, ?_⟩
        refine Own.storeAt O7 ha111 h0_112 h1_113 2 [(.int .i64 ((((r76.1 ++ ([(⟨11, 0, 0, 0⟩ : D.Ins)] : List D.Ins))).length : Nat) : Int))] (⟨(rd (r76.1 ++ ([(⟨11, 0, 0, 0⟩ : D.Ins)] : List D.Ins)) ((xs42.length : Nat) : Int)).Op, (rd (r76.1 ++ ([(⟨11, 0, 0, 0⟩ : D.Ins)] : List D.Ins)) ((xs42.length : Nat) : Int)).A, ((((r76.1 ++ ([(⟨11, 0, 0, 0⟩ : D.Ins)] : List D.Ins))).length : Nat) : Int), (rd (r76.1 ++ ([(⟨11, 0, 0, 0⟩ : D.Ins)] : List D.Ins)) ((xs42.length : Nat) : Int)).C⟩ : D.Ins) rfl (Nat.le_of_ble_eq_true rfl) rfl (fun w114 P7 e115 hb116 => ?_)
        have O1_ := O1.chg e115 (fun h_ => (N7_1) _ ha111 h_.symm)
        have O1 := O1_
        have hB := hB.chgb e115 (mv_or Mw7 ⟨_, ha111, rfl⟩ (fun h_ => (Or.inr h_)))
        have O7 := P7
        obtain ⟨hp119, H⟩ := H
        obtain ⟨r117, hr118⟩ : ∃ r_, r_ = M.spec_l05Body (⟨s0.b, r84.2.i, r84.2.h⟩ : D.Cur) (List.set (r76.1 ++ ([(⟨11, 0, 0, 0⟩ : D.Ins)] : List D.Ins)) (((xs42.length : Nat) : Int).toNat) (⟨(rd (r76.1 ++ ([(⟨11, 0, 0, 0⟩ : D.Ins)] : List D.Ins)) ((xs42.length : Nat) : Int)).Op, (rd (r76.1 ++ ([(⟨11, 0, 0, 0⟩ : D.Ins)] : List D.Ins)) ((xs42.length : Nat) : Int)).A, ((((r76.1 ++ ([(⟨11, 0, 0, 0⟩ : D.Ins)] : List D.Ins))).length : Nat) : Int), (rd (r76.1 ++ ([(⟨11, 0, 0, 0⟩ : D.Ins)] : List D.Ins)) ((xs42.length : Nat) : Int)).C⟩ : D.Ins)) (IntKind.wrap .i64 (x2 - 1)) := ⟨_, rfl⟩
        have H := H r117 hr118
        refine (cllArgs (by first | (simp only [List.length_set]; done) | (simp; done)) (IH_ _ (by rw [← hn_]; exact spec_l05Body.dec hp (by assumption)) hp119 hr118 O1 (R0_0.chgS hB D0_0) hc0_0 (O7.mono (Nat.zero_le _)) (fun hx_ => (fun g h_ => (fun hS_ => hS_.elim ((fun g h_ hS_ => D0_0 hx_ g h_ (Or.inl hS_)) g h_) ((fun g h_ hS_ => (mv_or Mw7 hS_ (fun h_ => (Or.inr h_))).elim (fun h3_ => Nat.not_le.2 (R0_0.old hx_ g h_) h3_) (D0_0 hx_ g h_)) g h_)))) rfl)).mono ?_
        rintro _ w120 ⟨A122, c123, rfl, P9, Mv9, Q1, hq124, e121⟩
        rw [hq124] at Q1
        have Mw9 := Mov.trans Mw7 Mv9 hB.size
        have hB := hB.chg e121 (fun g => (fun hS_ => hS_.elim ((fun g h_ => Or.inr (Or.inl h_)) g) ((fun g h_ => (mv_or Mw7 h_ (fun h_ => (Or.inr h_)))) g)))
        have O1 := Q1
        have O9 := P9
        refine ⟨A122, r117.1.length, c123, rfl, ?_⟩
        obtain ⟨⟨h0_128, h1_129⟩, H⟩ := H
        obtain ⟨a126, ha127, hat125⟩ := Row.at O9.row h0_128 h1_129
        refine ⟨h0_128, h1_129, a126, ha127, ?_⟩
        refine Own.storeAt O9 ha127 h0_128 h1_129 2 [(.int .i64 ((r117.1.length : Nat) : Int))] (⟨(rd r117.1 ((r76.1.length : Nat) : Int)).Op, (rd r117.1 ((r76.1.length : Nat) : Int)).A, ((r117.1.length : Nat) : Int), (rd r117.1 ((r76.1.length : Nat) : Int)).C⟩ : D.Ins) rfl (Nat.le_of_ble_eq_true rfl) rfl (fun w130 P9 e131 hb132 => ?_)
        have O1_ := O1.chg e131 (fun h_ => ((O9.apart_type O1 (by decide))) _ ha127 h_.symm)
        have O1 := O1_
        have hB := hB.chgb e131 (mv_or Mw9 ⟨_, ha127, rfl⟩ (fun h_ => (Or.inr h_)))
        have O9 := P9
        obtain ⟨m133, hm134, hJ135⟩ := H
        exact ⟨m133, hm134, (List.set r117.1 (((r76.1.length : Nat) : Int).toNat) (⟨(rd r117.1 ((r76.1.length : Nat) : Int)).Op, (rd r117.1 ((r76.1.length : Nat) : Int)).A, ((r117.1.length : Nat) : Int), (rd r117.1 ((r76.1.length : Nat) : Int)).C⟩ : D.Ins)), (IntKind.wrap .i64 (i45 - 1)), r117.2.i, r117.2.h, A122, c123, (by first | rfl | (simp only [List.length_set])), hJ135, hB, (by first | exact O9 | (simp only [List.length_set]; exact O9)), Mw9, (by first | exact O1 | (simp only [List.length_set]; exact O1))⟩
      have H := (bcase_iff.1 H).2 hc207
      refine bcase_mk (fun hc206 => ?_) (fun hc206 => ?_)
      · have H := (bcase_iff.1 H).1 hc206
        refine bcase_mk (fun hc188 => ?_) (fun hc188 => ?_)
        · have H := (bcase_iff.1 H).1 hc188
          obtain ⟨m138, hm139, hJ140⟩ := H
          exact ⟨m138, hm139, xs42, (IntKind.wrap .i64 (i45 - 1)), r53.2.i, r53.2.h, A43, c44, rfl, hJ140, hB, O5, Mv5, O1⟩
        have H := (bcase_iff.1 H).2 hc188
        refine bcase_mk (fun hc187 => ?_) (fun hc187 => ?_)
        · have H := (bcase_iff.1 H).1 hc187
          obtain ⟨m141, hm142, hJ143⟩ := H
          exact ⟨m141, hm142, xs42, (IntKind.wrap .i64 (i45 - 1)), r53.2.i, r53.2.h, A43, c44, rfl, hJ143, hB, O5, Mv5, O1⟩
        have H := (bcase_iff.1 H).2 hc187
        refine buildOwn el91 ([(⟨8, 3, 0, 0⟩ : D.Ins)] : List D.Ins) (fun _ => by kernel_rfl) rfl (fun A144 w145 P10 e146 => ?_)
        have N10_1 := P10.apart_old O1.lt
        have N5_10 := Own.apart2_new O5 P10 (Nat.le_refl _)
        have O1 := O1.ext e146
        have O5 := O5.ext e146
        have O10 := P10.mono hB.size
        have hB := hB.then e146
        obtain ⟨hl151, H⟩ := H
        refine appOwnB slt24 slt24.under O5 O10.row (Nat.zero_le _) rfl (by first | rfl | omega | (simp; done) | (simp; omega)) hl151 (fun A147 c148 w149 P5 e150 => ?_)
        have N5_1_ := Apart.app (O5.apart_type O1 (by decide)) e150 O1.lt
        have O1 := O1.app e150 (O5.apart_type O1 (by decide))
        have N10_5_ := Apart2.app (N5_10).symm e150 O10
        have O10 := O10.app e150 (N5_10).symm
        have N5_1 := N5_1_
        have N10_5 := N10_5_
        have hBs_ := hB.size
        have hB := hB.app e150 (fun g h_ => (mv_or Mv5 h_ (fun h_ => (Or.inr h_))))
        have O5 := P5
        have Mw5 := Mov.trans Mv5 e150.blk hBs_
        refine buildOwn el91 ([(⟨10, 3, 0, 0⟩ : D.Ins)] : List D.Ins) (fun _ => by kernel_rfl) rfl (fun A152 w153 P11 e154 => ?_)
        have N11_1 := P11.apart_old O1.lt
        have N5_11 := Own.apart2_new O5 P11 (Nat.le_refl _)
        have O1 := O1.ext e154
        have O5 := O5.ext e154
        have O11 := P11.mono hB.size
        have hB := hB.then e154
        obtain ⟨hl159, H⟩ := H
        refine appOwnB slt24 slt24.under O5 O11.row (Nat.zero_le _) rfl (by first | rfl | omega | (simp; done) | (simp; omega)) hl159 (fun A155 c156 w157 P5 e158 => ?_)
        have N5_1_ := Apart.app N5_1 e158 O1.lt
        have O1 := O1.app e158 N5_1
        have N11_5_ := Apart2.app (N5_11).symm e158 O11
        have O11 := O11.app e158 (N5_11).symm
        have N5_1 := N5_1_
        have N11_5 := N11_5_
        have hBs_ := hB.size
        have hB := hB.app e158 (fun g h_ => (mv_or Mw5 h_ (fun h_ => (Or.inr h_))))
        have O5 := P5
        have Mw5 := Mov.trans Mw5 e158.blk hBs_
        refine buildOwn el91 ([(⟨3, 0, 0, 1⟩ : D.Ins), (⟨1, 2, 1, 0⟩ : D.Ins), (⟨4, 3, 3, 2⟩ : D.Ins)] : List D.Ins) (fun _ => by kernel_rfl) rfl (fun A160 w161 P12 e162 => ?_)
        have N12_1 := P12.apart_old O1.lt
        have N5_12 := Own.apart2_new O5 P12 (Nat.le_refl _)
        have O1 := O1.ext e162
        have O5 := O5.ext e162
        have O12 := P12.mono hB.size
        have hB := hB.then e162
        obtain ⟨hl167, H⟩ := H
        refine appOwnB slt24 slt24.under O5 O12.row (Nat.zero_le _) rfl (by first | rfl | omega | (simp; done) | (simp; omega)) hl167 (fun A163 c164 w165 P5 e166 => ?_)
        have N5_1_ := Apart.app N5_1 e166 O1.lt
        have O1 := O1.app e166 N5_1
        have N12_5_ := Apart2.app (N5_12).symm e166 O12
        have O12 := O12.app e166 (N5_12).symm
        have N5_1 := N5_1_
        have N12_5 := N12_5_
        have hBs_ := hB.size
        have hB := hB.app e166 (fun g h_ => (mv_or Mw5 h_ (fun h_ => (Or.inr h_))))
        have O5 := P5
        have Mw5 := Mov.trans Mw5 e166.blk hBs_
        refine buildOwn el91 ([(⟨11, 0, ((((xs42 ++ ([(⟨8, 3, 0, 0⟩ : D.Ins)] : List D.Ins))).length : Nat) : Int), 0⟩ : D.Ins)] : List D.Ins) (fun _ => by kernel_rfl) rfl (fun A168 w169 P13 e170 => ?_)
        have N13_1 := P13.apart_old O1.lt
        have N5_13 := Own.apart2_new O5 P13 (Nat.le_refl _)
        have O1 := O1.ext e170
        have O5 := O5.ext e170
        have O13 := P13.mono hB.size
        have hB := hB.then e170
        obtain ⟨hl175, H⟩ := H
        refine appOwnB slt24 slt24.under O5 O13.row (Nat.zero_le _) rfl (by first | rfl | omega | (simp; done) | (simp; omega)) hl175 (fun A171 c172 w173 P5 e174 => ?_)
        have N5_1_ := Apart.app N5_1 e174 O1.lt
        have O1 := O1.app e174 N5_1
        have N13_5_ := Apart2.app (N5_13).symm e174 O13
        have O13 := O13.app e174 (N5_13).symm
        have N5_1 := N5_1_
        have N13_5 := N13_5_
        have hBs_ := hB.size
        have hB := hB.app e174 (fun g h_ => (mv_or Mw5 h_ (fun h_ => (Or.inr h_))))
        have O5 := P5
        have Mw5 := Mov.trans Mw5 e174.blk hBs_
        obtain ⟨⟨h0_179, h1_180⟩, H⟩ := H
        obtain ⟨a177, ha178, hat176⟩ := Row.at O5.row h0_179 h1_180
        refine ⟨h0_179, h1_180, a177, ha178, ?_⟩
        refine Own.storeAt O5 ha178 h0_179 h1_180 2 [(.int .i64 (((((((xs42 ++ ([(⟨8, 3, 0, 0⟩ : D.Ins)] : List D.Ins)) ++ ([(⟨10, 3, 0, 0⟩ : D.Ins)] : List D.Ins)) ++ ([(⟨3, 0, 0, 1⟩ : D.Ins), (⟨1, 2, 1, 0⟩ : D.Ins), (⟨4, 3, 3, 2⟩ : D.Ins)] : List D.Ins)) ++ ([(⟨11, 0, ((((xs42 ++ ([(⟨8, 3, 0, 0⟩ : D.Ins)] : List D.Ins))).length : Nat) : Int), 0⟩ : D.Ins)] : List D.Ins))).length : Nat) : Int))] (⟨(rd ((((xs42 ++ ([(⟨8, 3, 0, 0⟩ : D.Ins)] : List D.Ins)) ++ ([(⟨10, 3, 0, 0⟩ : D.Ins)] : List D.Ins)) ++ ([(⟨3, 0, 0, 1⟩ : D.Ins), (⟨1, 2, 1, 0⟩ : D.Ins), (⟨4, 3, 3, 2⟩ : D.Ins)] : List D.Ins)) ++ ([(⟨11, 0, ((((xs42 ++ ([(⟨8, 3, 0, 0⟩ : D.Ins)] : List D.Ins))).length : Nat) : Int), 0⟩ : D.Ins)] : List D.Ins)) ((((xs42 ++ ([(⟨8, 3, 0, 0⟩ : D.Ins)] : List D.Ins))).length : Nat) : Int)).Op, (rd ((((xs42 ++ ([(⟨8, 3, 0, 0⟩ : D.Ins)] : List D.Ins)) ++ ([(⟨10, 3, 0, 0⟩ : D.Ins)] : List D.Ins)) ++ ([(⟨3, 0, 0, 1⟩ : D.Ins), (⟨1, 2, 1, 0⟩ : D.Ins), (⟨4, 3, 3, 2⟩ : D.Ins)] : List D.Ins)) ++ ([(⟨11, 0, ((((xs42 ++ ([(⟨8, 3, 0, 0⟩ : D.Ins)] : List D.Ins))).length : Nat) : Int), 0⟩ : D.Ins)] : List D.Ins)) ((((xs42 ++ ([(⟨8, 3, 0, 0⟩ : D.Ins)] : List D.Ins))).length : Nat) : Int)).A, (((((((xs42 ++ ([(⟨8, 3, 0, 0⟩ : D.Ins)] : List D.Ins)) ++ ([(⟨10, 3, 0, 0⟩ : D.Ins)] : List D.Ins)) ++ ([(⟨3, 0, 0, 1⟩ : D.Ins), (⟨1, 2, 1, 0⟩ : D.Ins), (⟨4, 3, 3, 2⟩ : D.Ins)] : List D.Ins)) ++ ([(⟨11, 0, ((((xs42 ++ ([(⟨8, 3, 0, 0⟩ : D.Ins)] : List D.Ins))).length : Nat) : Int), 0⟩ : D.Ins)] : List D.Ins))).length : Nat) : Int), (rd ((((xs42 ++ ([(⟨8, 3, 0, 0⟩ : D.Ins)] : List D.Ins)) ++ ([(⟨10, 3, 0, 0⟩ : D.Ins)] : List D.Ins)) ++ ([(⟨3, 0, 0, 1⟩ : D.Ins), (⟨1, 2, 1, 0⟩ : D.Ins), (⟨4, 3, 3, 2⟩ : D.Ins)] : List D.Ins)) ++ ([(⟨11, 0, ((((xs42 ++ ([(⟨8, 3, 0, 0⟩ : D.Ins)] : List D.Ins))).length : Nat) : Int), 0⟩ : D.Ins)] : List D.Ins)) ((((xs42 ++ ([(⟨8, 3, 0, 0⟩ : D.Ins)] : List D.Ins))).length : Nat) : Int)).C⟩ : D.Ins) rfl (Nat.le_of_ble_eq_true rfl) rfl (fun w181 P5 e182 hb183 => ?_)
        have O1_ := O1.chg e182 (fun h_ => (N5_1) _ ha178 h_.symm)
        have O1 := O1_
        have hB := hB.chgb e182 (mv_or Mw5 ⟨_, ha178, rfl⟩ (fun h_ => (Or.inr h_)))
        have O5 := P5
        obtain ⟨m184, hm185, hJ186⟩ := H
        exact ⟨m184, hm185, (List.set ((((xs42 ++ ([(⟨8, 3, 0, 0⟩ : D.Ins)] : List D.Ins)) ++ ([(⟨10, 3, 0, 0⟩ : D.Ins)] : List D.Ins)) ++ ([(⟨3, 0, 0, 1⟩ : D.Ins), (⟨1, 2, 1, 0⟩ : D.Ins), (⟨4, 3, 3, 2⟩ : D.Ins)] : List D.Ins)) ++ ([(⟨11, 0, ((((xs42 ++ ([(⟨8, 3, 0, 0⟩ : D.Ins)] : List D.Ins))).length : Nat) : Int), 0⟩ : D.Ins)] : List D.Ins)) (((((xs42 ++ ([(⟨8, 3, 0, 0⟩ : D.Ins)] : List D.Ins))).length : Nat) : Int).toNat) (⟨(rd ((((xs42 ++ ([(⟨8, 3, 0, 0⟩ : D.Ins)] : List D.Ins)) ++ ([(⟨10, 3, 0, 0⟩ : D.Ins)] : List D.Ins)) ++ ([(⟨3, 0, 0, 1⟩ : D.Ins), (⟨1, 2, 1, 0⟩ : D.Ins), (⟨4, 3, 3, 2⟩ : D.Ins)] : List D.Ins)) ++ ([(⟨11, 0, ((((xs42 ++ ([(⟨8, 3, 0, 0⟩ : D.Ins)] : List D.Ins))).length : Nat) : Int), 0⟩ : D.Ins)] : List D.Ins)) ((((xs42 ++ ([(⟨8, 3, 0, 0⟩ : D.Ins)] : List D.Ins))).length : Nat) : Int)).Op, (rd ((((xs42 ++ ([(⟨8, 3, 0, 0⟩ : D.Ins)] : List D.Ins)) ++ ([(⟨10, 3, 0, 0⟩ : D.Ins)] : List D.Ins)) ++ ([(⟨3, 0, 0, 1⟩ : D.Ins), (⟨1, 2, 1, 0⟩ : D.Ins), (⟨4, 3, 3, 2⟩ : D.Ins)] : List D.Ins)) ++ ([(⟨11, 0, ((((xs42 ++ ([(⟨8, 3, 0, 0⟩ : D.Ins)] : List D.Ins))).length : Nat) : Int), 0⟩ : D.Ins)] : List D.Ins)) ((((xs42 ++ ([(⟨8, 3, 0, 0⟩ : D.Ins)] : List D.Ins))).length : Nat) : Int)).A, (((((((xs42 ++ ([(⟨8, 3, 0, 0⟩ : D.Ins)] : List D.Ins)) ++ ([(⟨10, 3, 0, 0⟩ : D.Ins)] : List D.Ins)) ++ ([(⟨3, 0, 0, 1⟩ : D.Ins), (⟨1, 2, 1, 0⟩ : D.Ins), (⟨4, 3, 3, 2⟩ : D.Ins)] : List D.Ins)) ++ ([(⟨11, 0, ((((xs42 ++ ([(⟨8, 3, 0, 0⟩ : D.Ins)] : List D.Ins))).length : Nat) : Int), 0⟩ : D.Ins)] : List D.Ins))).length : Nat) : Int), (rd ((((xs42 ++ ([(⟨8, 3, 0, 0⟩ : D.Ins)] : List D.Ins)) ++ ([(⟨10, 3, 0, 0⟩ : D.Ins)] : List D.Ins)) ++ ([(⟨3, 0, 0, 1⟩ : D.Ins), (⟨1, 2, 1, 0⟩ : D.Ins), (⟨4, 3, 3, 2⟩ : D.Ins)] : List D.Ins)) ++ ([(⟨11, 0, ((((xs42 ++ ([(⟨8, 3, 0, 0⟩ : D.Ins)] : List D.Ins))).length : Nat) : Int), 0⟩ : D.Ins)] : List D.Ins)) ((((xs42 ++ ([(⟨8, 3, 0, 0⟩ : D.Ins)] : List D.Ins))).length : Nat) : Int)).C⟩ : D.Ins)), (IntKind.wrap .i64 (i45 - 1)), r53.2.i, r53.2.h, A171, c172, (by first | rfl | (simp only [List.length_set])), hJ186, hB, (by first | exact O5 | (simp only [List.length_set]; exact O5)), Mw5, (by first | exact O1 | (simp only [List.length_set]; exact O1))⟩
      have H := (bcase_iff.1 H).2 hc206
      obtain ⟨hp191, H⟩ := H
      obtain ⟨r189, hr190⟩ : ∃ r_, r_ = M.spec_l04Plain (⟨s0.b, r53.2.i, r53.2.h⟩ : D.Cur) := ⟨_, rfl⟩
      have H := H r189 hr190
      refine (spec_l04Plain.con hp191 hr190 O1 (R0_0.chgS hB D0_0) hc0_0 (fun hx_ => (fun g h_ hS_ => D0_0 hx_ g h_ (Or.inl hS_)))).mono ?_
      rintro _ w192 ⟨rfl, Q1, hq194, e193⟩
      rw [hq194] at Q1
      have O5 := O5.chgS e193 (box_inb (O5.apart_type O1 (by decide)))
      have hB := hB.chg e193 (fun g h_ => Or.inr (Or.inl h_))
      have O1 := Q1
      refine ⟨r189.1.Op, trivial, ?_⟩
      refine ⟨r189.1.A, trivial, ?_⟩
      refine ⟨r189.1.B, trivial, ?_⟩
      refine ⟨r189.1.C, trivial, ?_⟩
      refine ⟨rfl, ?_⟩
      refine buildOwn el91 ([r189.1] : List D.Ins) (fun _ => by kernel_rfl) rfl (fun A195 w196 P14 e197 => ?_)
      have N14_1 := P14.apart_old O1.lt
      have N5_14 := Own.apart2_new O5 P14 (Nat.le_refl _)
      have O1 := O1.ext e197
      have O5 := O5.ext e197
      have O14 := P14.mono hB.size
      have hB := hB.then e197
      obtain ⟨hl202, H⟩ := H
      refine appOwnB slt24 slt24.under O5 O14.row (Nat.zero_le _) rfl (by first | rfl | omega | (simp; done) | (simp; omega)) hl202 (fun A198 c199 w200 P5 e201 => ?_)
      have N5_1_ := Apart.app (O5.apart_type O1 (by decide)) e201 O1.lt
      have O1 := O1.app e201 (O5.apart_type O1 (by decide))
      have N14_5_ := Apart2.app (N5_14).symm e201 O14
      have O14 := O14.app e201 (N5_14).symm
      have N5_1 := N5_1_
      have N14_5 := N14_5_
      have hBs_ := hB.size
      have hB := hB.app e201 (fun g h_ => (mv_or Mv5 h_ (fun h_ => (Or.inr h_))))
      have O5 := P5
      have Mw5 := Mov.trans Mv5 e201.blk hBs_
      obtain ⟨m203, hm204, hJ205⟩ := H
      exact ⟨m203, hm204, (xs42 ++ ([r189.1] : List D.Ins)), (IntKind.wrap .i64 (i45 - 1)), r189.2.i, r189.2.h, A198, c199, rfl, hJ205, hB, O5, Mw5, O1⟩
    have H := (bcase_iff.1 H).2 hc208
    obtain rfl := hr.trans H.symm
    exact ⟨A43, c44, rfl, (O5.mono (Nat.zero_le _)), Mv5, O1, rfl, hB⟩
  have H := (bcase_iff.1 H).2 hc209
  obtain rfl := hr.trans H.symm
  exact ⟨A43, c44, rfl, (O5.mono (Nat.zero_le _)), Mv5, O1, rfl, hB⟩

theorem spec_l05Body.con {s0 : D.Cur} {g1_ : Nat} {A0_0 : Option Addr} {c0_0 : Nat} {xs1 : List D.Ins} {A1 : Option Addr} {c1 : Nat} {x2 : Int} {r : (List D.Ins) × D.Cur} {w : World} (hp : M.spec_l05Body_pre s0 xs1 x2) (hr : r = M.spec_l05Body s0 xs1 x2) (O1 : Blk w g1_ 123 #[(.slice A0_0 s0.b.length c0_0), (.int .i64 s0.i), (.int .i64 s0.h)]) (R0_0 : Row el5 w A0_0 s0.b) (hc0_0 : s0.b.length ≤ c0_0) (O3 : Own el91 w 0 A1 c1 xs1) (D0_0 : s0.b ≠ [] → ∀ g, InB A0_0 g → ¬ (fun k_ => k_ = g1_ ∨ InB A1 k_) g) :
    Cll Tryz.prog 113 #[(.pointer (some (⟨g1_, 0, none⟩ : Addr))), (.slice A1 xs1.length c1), (.int .i64 x2)] w (fun v_ w_ => ∃ (A0_ : Option Addr) (c0_ : Nat), v_ = (.slice A0_ r.1.length c0_) ∧ Own el91 w_ 0 A0_ c0_ r.1 ∧ Mov w A1 A0_ ∧ Blk w_ g1_ 123 #[(.slice A0_0 r.2.b.length c0_0), (.int .i64 r.2.i), (.int .i64 r.2.h)] ∧ r.2.b = s0.b ∧ Chg (fun k_ => k_ = g1_ ∨ InB A1 k_) w w_) := spec_l05Body.con_ _ hp hr O1 R0_0 hc0_0 O3 D0_0 rfl
def spec_l05Quiet.vc (p0 : Addr) (w : World) (K : Value → World → Prop) : Prop :=
  Run Tryz.prog (Instr.buildSlice 24 0 #[]) w fun v21 w22 => ∃ (A23 : Option Addr) (n24 c25 : Nat), v21 = .slice A23 n24 c25 ∧ JoinT (σ := (Option Addr × Nat × Nat) × Unit) (fun J26 => Cll Tryz.prog 112 #[(.pointer (some p0)), (.int .i64 4)] w22 fun v27 w28 => (∃ (b29 : Bool), v27 = (.bool b29) ∧ bcase (!b29) (Cll Tryz.prog 62 #[(.pointer (some p0)), (.int .i64 2)] w28 fun v30 w31 => (∃ (n32 : Int), v30 = (.int .i64 n32) ∧ Run Tryz.prog (Instr.buildSlice 24 1 #[(0, (.agg #[(.int .i64 8), (.int .i64 n32), (.int .i64 0), (.int .i64 0)]))]) w31 fun v33 w34 => ∃ (A35 : Option Addr) (n36 c37 : Nat), v33 = .slice A35 n36 c37 ∧ Run Tryz.prog (Builtin.append_ #[24, 24] 24 #[(.slice A23 n24 c25), (.slice A35 n36 c37)]) w34 fun v38 w39 => ∃ (A40 : Option Addr) (n41 c42 : Nat), v38 = .slice A40 n41 c42 ∧ J26 ((A40, n41, c42), ()) w39)) (J26 ((A23, n24, c25), ()) w28))) fun z43 w44 => Cll Tryz.prog 113 #[(.pointer (some p0)), (.slice z43.1.1 z43.1.2.1 z43.1.2.2), (.int .i64 2)] w44 fun v45 w46 => (∃ (A47 : Option Addr) (n48 : Nat) (c49 : Nat), v45 = (.slice A47 n48 c49) ∧ JoinT (σ := Bool × Unit) (fun J50 => Cll Tryz.prog 112 #[(.pointer (some p0)), (.int .i64 6)] w46 fun v51 w52 => (∃ (b53 : Bool), v51 = (.bool b53) ∧ bcase b53 (J50 ((decide (((n48 : Nat) : Int) > 1)), ()) w52) (J50 (false, ()) w52))) fun z54 w55 => bcase z54.1 (Cll Tryz.prog 62 #[(.pointer (some p0)), (.int .i64 ((n48 : Nat) : Int))] w55 fun v56 w57 => (∃ (n58 : Int), v56 = (.int .i64 n58) ∧ ((0 : Int) ≤ n58 ∧ n58 < ((n48 : Nat) : Int) ∧ ∃ a59 : Addr, A47 = some a59 ∧ stCells (a59.add ((n58.toNat) * 4)) [(.int .i64 12), (.int .i64 0), (.int .i64 0), (.int .i64 0)] 0 w57 fun w60 => K (.slice A47 n48 c49) w60))) (K (.slice A47 n48 c49) w55))

def spec_l05Quiet.ann : Ann := (.seq .l (.seq .l (.cut [(3, .sl)] (.seq .l (.two .l .l)) (.seq .l (.seq (.cut [(23, .bool)] .l (.two .l .l)) (.seq .l .l))))))

theorem spec_l05Quiet.start {p0 : Addr} {w : World} {K : Value → World → Prop} (h : spec_l05Quiet.vc p0 w K) : Cll Tryz.prog 53 #[(.pointer (some p0))] w K :=
  vcF_sound mixed (fn := Tryz.f53) (by kernel_rfl) (by kernel_rfl) (an := spec_l05Quiet.ann) (args := [(.pointer (some p0))]) (Eq.mpr (by kernel_rfl) h)

theorem spec_l05Quiet.con {s0 : D.Cur} {g1_ : Nat} {A0_0 : Option Addr} {c0_0 : Nat} {r : (List D.Ins) × D.Cur} {w : World} (hp : M.spec_l05Quiet_pre s0) (hr : r = M.spec_l05Quiet s0) (O1 : Blk w g1_ 123 #[(.slice A0_0 s0.b.length c0_0), (.int .i64 s0.i), (.int .i64 s0.h)]) (R0_0 : Row el5 w A0_0 s0.b) (hc0_0 : s0.b.length ≤ c0_0) (D0_0 : s0.b ≠ [] → ∀ g, InB A0_0 g → ¬ (fun k_ => k_ = g1_) g) :
    Cll Tryz.prog 53 #[(.pointer (some (⟨g1_, 0, none⟩ : Addr)))] w (fun v_ w_ => ∃ (A0_ : Option Addr) (c0_ : Nat), v_ = (.slice A0_ r.1.length c0_) ∧ Own el91 w_ w.heap.size A0_ c0_ r.1 ∧ Blk w_ g1_ 123 #[(.slice A0_0 r.2.b.length c0_0), (.int .i64 r.2.i), (.int .i64 r.2.h)] ∧ r.2.b = s0.b ∧ Chg (fun k_ => k_ = g1_) w w_) := by
  have H := wp.spec_l05Quiet.math s0 hp
  have hB := Chg.refl (fun k_ => k_ = g1_) w
  refine spec_l05Quiet.start ?_
  unfold spec_l05Quiet.vc
  unfold wp.spec_l05Quiet at H
  refine buildOwn el91 ([] : List D.Ins) (fun _ => by kernel_rfl) rfl (fun A21 w22 P3 e23 => ?_)
  have N3_1 := P3.apart_old O1.lt
  have O1 := O1.ext e23
  have O3 := P3.mono hB.size
  have hB := hB.then e23
  obtain ⟨K92, hKK92, H⟩ := joinP_out H
  refine ⟨fun z_ w_ => ∃ (xs24 : List D.Ins) (i27 : Int) (i28 : Int) (A25 : Option Addr) (c26 : Nat), z_ = ((A25, xs24.length, c26), ()) ∧ K92 (xs24, i27, i28, ()) ∧ Chg (fun k_ => k_ = g1_) w w_ ∧ Own el91 w_ w.heap.size A25 c26 xs24 ∧ Blk w_ g1_ 123 #[(.slice A0_0 s0.b.length c0_0), (.int .i64 i27), (.int .i64 i28)], ?_, ?_⟩
  · obtain ⟨hp34, H⟩ := H
    obtain ⟨r32, hr33⟩ : ∃ r_, r_ = M.spec_l01Once s0 4 := ⟨_, rfl⟩
    have H := H r32 hr33
    refine (spec_l01Once.con hp34 hr33 O1 (R0_0.chgS hB D0_0) hc0_0 (fun hx_ => (fun g h_ hS_ => D0_0 hx_ g h_ hS_))).mono ?_
    rintro _ w35 ⟨rfl, Q1, hq37, e36⟩
    rw [hq37] at Q1
    have O3 := O3.chgS e36 (box_inb N3_1)
    have hB := hB.chg e36 (fun g h_ => Or.inr h_)
    have O1 := Q1
    refine ⟨r32.1, rfl, ?_⟩
    refine bcase_mk (fun hc52 => ?_) (fun hc52 => ?_)
    · have H := (bcase_iff.1 H).1 hc52
      obtain ⟨hp40, H⟩ := H
      obtain ⟨r38, hr39⟩ : ∃ r_, r_ = M.spec_l01Below (⟨s0.b, r32.2.i, r32.2.h⟩ : D.Cur) 2 := ⟨_, rfl⟩
      have H := H r38 hr39
      refine (spec_l01Below.con hp40 hr39 O1 (R0_0.chgS hB D0_0) hc0_0 (fun hx_ => (fun g h_ hS_ => D0_0 hx_ g h_ hS_))).mono ?_
      rintro _ w41 ⟨rfl, Q1, hq43, e42⟩
      rw [hq43] at Q1
      have O3 := O3.chgS e42 (box_inb N3_1)
      have hB := hB.chg e42 (fun g h_ => Or.inr h_)
      have O1 := Q1
      refine ⟨r38.1, rfl, ?_⟩
      refine buildOwn el91 ([(⟨8, r38.1, 0, 0⟩ : D.Ins)] : List D.Ins) (fun _ => by kernel_rfl) rfl (fun A44 w45 P6 e46 => ?_)
      have N6_1 := P6.apart_old O1.lt
      have N3_6 := Own.apart2_new O3 P6 (Nat.le_refl _)
      have O1 := O1.ext e46
      have O3 := O3.ext e46
      have O6 := P6.mono hB.size
      have hB := hB.then e46
      obtain ⟨hl51, H⟩ := H
      refine appOwn slt24 slt24.under O3 O6.row hB.size (by first | rfl | omega | (simp; done) | (simp; omega)) (by first | rfl | omega | (simp; done) | (simp; omega)) hl51 (fun A47 c48 w49 P3 e50 => ?_)
      have N3_1_ := Apart.app N3_1 e50 O1.lt
      have O1 := O1.app e50 N3_1
      have N6_3_ := Apart2.app (N3_6).symm e50 O6
      have O6 := O6.app e50 (N3_6).symm
      have N3_1 := N3_1_
      have N6_3 := N6_3_
      have hB := hB.app e50 (fun g h_ => Or.inl (O3.low g h_))
      have O3 := P3
      exact ⟨(([] : List D.Ins) ++ ([(⟨8, r38.1, 0, 0⟩ : D.Ins)] : List D.Ins)), r38.2.i, r38.2.h, A47, c48, rfl, H, hB, O3, O1⟩
    have H := (bcase_iff.1 H).2 hc52
    exact ⟨([] : List D.Ins), r32.2.i, r32.2.h, A21, 0, rfl, H, hB, O3, O1⟩
  rintro _ w30 ⟨xs24, i27, i28, A25, c26, rfl, H, hB, O5, O1⟩
  have H := hKK92 _ H
  try dsimp only at H ⊢
  obtain ⟨hp55, H⟩ := H
  obtain ⟨r53, hr54⟩ : ∃ r_, r_ = M.spec_l05Body (⟨s0.b, i27, i28⟩ : D.Cur) xs24 2 := ⟨_, rfl⟩
  have H := H r53 hr54
  refine (spec_l05Body.con hp55 hr54 O1 (R0_0.chgS hB D0_0) hc0_0 (O5.mono (Nat.zero_le _)) (fun hx_ => (fun g h_ => (fun hS_ => hS_.elim ((fun g h_ hS_ => D0_0 hx_ g h_ hS_) g h_) ((fun g h_ hS_ => Nat.not_le.2 (R0_0.old hx_ g h_) (O5.low g hS_)) g h_))))).mono ?_
  rintro _ w56 ⟨A58, c59, rfl, P7, Mv7, Q1, hq60, e57⟩
  rw [hq60] at Q1
  have Lw7 := Mv7.low O5.low hB.size
  have hB := hB.chg e57 (fun g => (fun hS_ => hS_.elim ((fun g h_ => Or.inr h_) g) ((fun g h_ => Or.inl (O5.low g h_)) g)))
  have O1 := Q1
  have O7 := P7.lift Lw7
  refine ⟨A58, r53.1.length, c59, rfl, ?_⟩
  obtain ⟨K90, hKK90, H⟩ := joinP_out H
  refine ⟨fun z_ w_ => ∃ (b61 : Bool) (i62 : Int) (i63 : Int), z_ = (b61, ()) ∧ K90 (b61, i62, i63, ()) ∧ Chg (fun k_ => k_ = g1_) w w_ ∧ Blk w_ g1_ 123 #[(.slice A0_0 s0.b.length c0_0), (.int .i64 i62), (.int .i64 i63)] ∧ Own el91 w_ w.heap.size A58 c59 r53.1, ?_, ?_⟩
  · obtain ⟨hp69, H⟩ := H
    obtain ⟨r67, hr68⟩ : ∃ r_, r_ = M.spec_l01Once (⟨s0.b, r53.2.i, r53.2.h⟩ : D.Cur) 6 := ⟨_, rfl⟩
    have H := H r67 hr68
    refine (spec_l01Once.con hp69 hr68 O1 (R0_0.chgS hB D0_0) hc0_0 (fun hx_ => (fun g h_ hS_ => D0_0 hx_ g h_ hS_))).mono ?_
    rintro _ w70 ⟨rfl, Q1, hq72, e71⟩
    rw [hq72] at Q1
    have O7 := O7.chgS e71 (box_inb (O7.apart_type O1 (by decide)))
    have hB := hB.chg e71 (fun g h_ => Or.inr h_)
    have O1 := Q1
    refine ⟨r67.1, rfl, ?_⟩
    refine bcase_mk (fun hc73 => ?_) (fun hc73 => ?_)
    · have H := (bcase_iff.1 H).1 hc73
      exact ⟨(decide (((r53.1.length : Nat) : Int) > 1)), r67.2.i, r67.2.h, rfl, H, hB, O1, O7⟩
    have H := (bcase_iff.1 H).2 hc73
    exact ⟨false, r67.2.i, r67.2.h, rfl, H, hB, O1, O7⟩
  rintro _ w65 ⟨b61, i62, i63, rfl, H, hB, O1, O7⟩
  have H := hKK90 _ H
  try dsimp only at H ⊢
  refine bcase_mk (fun hc88 => ?_) (fun hc88 => ?_)
  · have H := (bcase_iff.1 H).1 hc88
    obtain ⟨hp76, H⟩ := H
    obtain ⟨r74, hr75⟩ : ∃ r_, r_ = M.spec_l01Below (⟨s0.b, i62, i63⟩ : D.Cur) ((r53.1.length : Nat) : Int) := ⟨_, rfl⟩
    have H := H r74 hr75
    refine (spec_l01Below.con hp76 hr75 O1 (R0_0.chgS hB D0_0) hc0_0 (fun hx_ => (fun g h_ hS_ => D0_0 hx_ g h_ hS_))).mono ?_
    rintro _ w77 ⟨rfl, Q1, hq79, e78⟩
    rw [hq79] at Q1
    have O7 := O7.chgS e78 (box_inb (O7.apart_type O1 (by decide)))
    have hB := hB.chg e78 (fun g h_ => Or.inr h_)
    have O1 := Q1
    refine ⟨r74.1, rfl, ?_⟩
    obtain ⟨⟨h0_83, h1_84⟩, H⟩ := H
    obtain ⟨a81, ha82, hat80⟩ := Row.at O7.row h0_83 h1_84
    refine ⟨h0_83, h1_84, a81, ha82, ?_⟩
    refine Own.storeAt O7 ha82 h0_83 h1_84 0 [(.int .i64 12), (.int .i64 0), (.int .i64 0), (.int .i64 0)] (⟨12, 0, 0, 0⟩ : D.Ins) rfl (Nat.le_of_ble_eq_true rfl) rfl (fun w85 P7 e86 hb87 => ?_)
    have O1_ := O1.chg e86 (fun h_ => ((O7.apart_type O1 (by decide))) _ ha82 h_.symm)
    have O1 := O1_
    have hB := hB.chgb e86 (Or.inl hb87)
    have O7 := P7
    obtain rfl := hr.trans H.symm
    exact ⟨A58, c59, (by first | rfl | (simp; done) | (simp; omega) | (simp [*]; done)), (by first | exact O7 | (simp only [List.length_set]; exact O7)), (by first | exact O1 | (simp only [List.length_set]; exact O1)), rfl, hB⟩
  have H := (bcase_iff.1 H).2 hc88
  obtain rfl := hr.trans H.symm
  exact ⟨A58, c59, rfl, O7, O1, rfl, hB⟩
def spec_DrawQuiet.vc (A0 : Option Addr) (n0 : Nat) (c0 : Nat) (w : World) (K : Value → World → Prop) : Prop :=
  Cll Tryz.prog 54 #[(.slice A0 n0 c0)] w fun v21 w22 => (∃ (p23 : Addr), v21 = (.pointer (some p23)) ∧ Cll Tryz.prog 53 #[(.pointer (some p23))] w22 fun v24 w25 => (∃ (A26 : Option Addr) (n27 : Nat) (c28 : Nat), v24 = (.slice A26 n27 c28) ∧ K (.slice A26 n27 c28) w25))

def spec_DrawQuiet.ann : Ann := (.seq .l (.seq .l .l))

theorem spec_DrawQuiet.start {A0 : Option Addr} {n0 : Nat} {c0 : Nat} {w : World} {K : Value → World → Prop} (h : spec_DrawQuiet.vc A0 n0 c0 w K) : Cll Tryz.prog 13 #[(.slice A0 n0 c0)] w K :=
  vcF_sound mixed (fn := Tryz.f13) (by kernel_rfl) (by kernel_rfl) (an := spec_DrawQuiet.ann) (args := [(.slice A0 n0 c0)]) (Eq.mpr (by kernel_rfl) h)

theorem spec_DrawQuiet.con {xs0 : List Int} {A0 : Option Addr} {c0 : Nat} {r : List D.Ins} {w : World} (hp : M.spec_DrawQuiet_pre xs0) (hr : r = M.spec_DrawQuiet xs0) (R0 : Row el5 w A0 xs0) (hc0 : xs0.length ≤ c0) :
    Cll Tryz.prog 13 #[(.slice A0 xs0.length c0)] w (fun v_ w_ => ∃ (A0_ : Option Addr) (c0_ : Nat), v_ = (.slice A0_ r.length c0_) ∧ Own el91 w_ w.heap.size A0_ c0_ r ∧ Ext w w_) := by
  have H := wp.spec_DrawQuiet.math xs0 hp
  have hB := Ext.refl w
  refine spec_DrawQuiet.start ?_
  unfold spec_DrawQuiet.vc
  unfold wp.spec_DrawQuiet at H
  obtain ⟨hp23, H⟩ := H
  obtain ⟨r21, hr22⟩ : ∃ r_, r_ = M.spec_l01New xs0 := ⟨_, rfl⟩
  have H := H r21 hr22
  refine (spec_l01New.con hp23 hr22 (R0.ext hB) hc0).mono ?_
  rintro _ w24 ⟨g2_, rfl, P2, hq26, L2, e25⟩
  rw [hq26] at P2
  have L2 := Nat.le_trans hB.size L2
  have O2 := P2
  have hB := ethen hB e25
  refine ⟨(⟨g2_, 0, none⟩ : Addr), rfl, ?_⟩
  obtain ⟨hp29, H⟩ := H
  obtain ⟨r27, hr28⟩ : ∃ r_, r_ = M.spec_l05Quiet (⟨xs0, r21.i, r21.h⟩ : D.Cur) := ⟨_, rfl⟩
  have H := H r27 hr28
  refine (spec_l05Quiet.con hp29 hr28 O2 (R0.ext hB) hc0 (fun hx_ => (fun g h_ hS_ => Nat.not_le.2 (R0.old hx_ g h_) (box_low L2 _ hS_)))).mono ?_
  rintro _ w30 ⟨A32, c33, rfl, P3, Q2, hq34, e31⟩
  rw [hq34] at Q2
  have N3_2 := P3.apart_old O2.lt
  have O3 := P3.mono hB.size
  have hB := Chg.ext hB e31 (box_low L2)
  have O2 := Q2
  refine ⟨A32, r27.1.length, c33, rfl, ?_⟩
  obtain rfl := hr.trans H.symm
  exact ⟨A32, c33, rfl, O3, hB⟩
def impl_AddCosts.vc (x0_0 : Int) (x0_1 : Int) (x0_2 : Int) (x1_0 : Int) (x1_1 : Int) (x1_2 : Int) (w : World) (K : Value → World → Prop) : Prop :=
  newK w (.cells #[(.int .i64 x0_0), (.int .i64 x0_1), (.int .i64 x0_2)] 39) fun g21 w22 => newK w22 (.cells #[(.int .i64 x1_0), (.int .i64 x1_1), (.int .i64 x1_2)] 39) fun g23 w24 => newK w24 (.cells #[(.int .i64 0), (.int .i64 0), (.int .i64 0)] 39) fun g25 w26 => ∃ (n27 : Int), w26.cell? (((⟨g21, 0, none⟩ : Addr).add 0).add 0) = some (.int .i64 n27) ∧ ∃ (n28 : Int), w26.cell? (((⟨g23, 0, none⟩ : Addr).add 0).add 0) = some (.int .i64 n28) ∧ ∃ (n29 : Int), w26.cell? (((⟨g21, 0, none⟩ : Addr).add 1).add 0) = some (.int .i64 n29) ∧ ∃ (n30 : Int), w26.cell? (((⟨g23, 0, none⟩ : Addr).add 1).add 0) = some (.int .i64 n30) ∧ ∃ (n31 : Int), w26.cell? (((⟨g21, 0, none⟩ : Addr).add 2).add 0) = some (.int .i64 n31) ∧ ∃ (n32 : Int), w26.cell? (((⟨g23, 0, none⟩ : Addr).add 2).add 0) = some (.int .i64 n32) ∧ stCells (⟨g25, 0, none⟩ : Addr) [(.int .i64 (IntKind.wrap .i64 (n27 + n28))), (.int .i64 (IntKind.wrap .i64 (n29 + n30))), (.int .i64 (IntKind.wrap .i64 (n31 + n32)))] 0 w26 fun w33 => ∃ (n34 : Int), w33.cell? ((⟨g25, 0, none⟩ : Addr).add 0) = some (.int .i64 n34) ∧ ∃ (n35 : Int), w33.cell? ((⟨g25, 0, none⟩ : Addr).add 1) = some (.int .i64 n35) ∧ ∃ (n36 : Int), w33.cell? ((⟨g25, 0, none⟩ : Addr).add 2) = some (.int .i64 n36) ∧ K (.agg #[(.int .i64 n34), (.int .i64 n35), (.int .i64 n36)]) w33

def impl_AddCosts.ann : Ann := (.seq .l (.seq .l .l))

theorem impl_AddCosts.start {x0_0 : Int} {x0_1 : Int} {x0_2 : Int} {x1_0 : Int} {x1_1 : Int} {x1_2 : Int} {w : World} {K : Value → World → Prop} (h : impl_AddCosts.vc x0_0 x0_1 x0_2 x1_0 x1_1 x1_2 w K) : Cll Tryz.prog 22 #[(.agg #[(.int .i64 x0_0), (.int .i64 x0_1), (.int .i64 x0_2)]), (.agg #[(.int .i64 x1_0), (.int .i64 x1_1), (.int .i64 x1_2)])] w K :=
  vcF_sound mixed (fn := Tryz.f22) (by kernel_rfl) (by kernel_rfl) (an := impl_AddCosts.ann) (args := [(.agg #[(.int .i64 x0_0), (.int .i64 x0_1), (.int .i64 x0_2)]), (.agg #[(.int .i64 x1_0), (.int .i64 x1_1), (.int .i64 x1_2)])]) (Eq.mpr (by kernel_rfl) h)

theorem impl_AddCosts.con {s0 : D.Cost} {s1 : D.Cost} {r : D.Cost} {w : World} (hr : r = M.impl_AddCosts s0 s1)  :
    Cll Tryz.prog 22 #[(.agg #[(.int .i64 s0.Steps), (.int .i64 s0.Active), (.int .i64 s0.Splits)]), (.agg #[(.int .i64 s1.Steps), (.int .i64 s1.Active), (.int .i64 s1.Splits)])] w (fun v_ w_ => v_ = (.agg #[(.int .i64 r.Steps), (.int .i64 r.Active), (.int .i64 r.Splits)]) ∧ Ext w w_) := by
  have H := wp.impl_AddCosts.math s0 s1
  have hB := Ext.refl w
  refine impl_AddCosts.start ?_
  unfold impl_AddCosts.vc
  unfold wp.impl_AddCosts at H
  refine newBlk (fun g1_ w21 L1 P1 e22 => ?_)
  have O1 := P1
  have L1 := Nat.le_trans hB.size L1
  have hB := ethen hB e22
  refine newBlk (fun g2_ w23 L2 P2 e24 => ?_)
  have N1_2 := O1.ne L2
  have O1 := O1.ext e24
  have O2 := P2
  have L2 := Nat.le_trans hB.size L2
  have hB := ethen hB e24
  refine newBlk (fun g3_ w25 L3 P3 e26 => ?_)
  have N1_3 := O1.ne L3
  have N2_3 := O2.ne L3
  have O1 := O1.ext e26
  have O2 := O2.ext e26
  have O3 := P3
  have L3 := Nat.le_trans hB.size L3
  have hB := ethen hB e26
  refine ⟨_, (O1.at 0 rfl rfl), ?_⟩
  refine ⟨_, (O2.at 0 rfl rfl), ?_⟩
  refine ⟨_, (O1.at 1 rfl rfl), ?_⟩
  refine ⟨_, (O2.at 1 rfl rfl), ?_⟩
  refine ⟨_, (O1.at 2 rfl rfl), ?_⟩
  refine ⟨_, (O2.at 2 rfl rfl), ?_⟩
  refine stBlk O3 (o := 0) (cs' := #[(.int .i64 (IntKind.wrap .i64 (s0.Steps + s1.Steps))), (.int .i64 (IntKind.wrap .i64 (s0.Active + s1.Active))), (.int .i64 (IntKind.wrap .i64 (s0.Splits + s1.Splits)))]) rfl rfl (Nat.le_of_ble_eq_true rfl) rfl (fun w27 P3 e28 => ?_)
  have O1_ := O1.chg e28 N1_3
  have O2_ := O2.chg e28 N2_3
  have O1 := O1_
  have O2 := O2_
  have hB := echg hB e28 L3
  have O3 := P3
  refine ⟨_, (O3.at 0 rfl rfl), ?_⟩
  refine ⟨_, (O3.at 1 rfl rfl), ?_⟩
  refine ⟨_, (O3.at 2 rfl rfl), ?_⟩
  obtain rfl := hr.trans H.symm
  exact ⟨rfl, hB⟩
def impl_IdleLanes.vc (x0_0 : Int) (x0_1 : Int) (x0_2 : Int) (w : World) (K : Value → World → Prop) : Prop :=
  newK w (.cells #[(.int .i64 x0_0), (.int .i64 x0_1), (.int .i64 x0_2)] 39) fun g21 w22 => ∃ (n24 : Int), w22.cell? (((⟨g21, 0, none⟩ : Addr).add 0).add 0) = some (.int .i64 n24) ∧ Cll Tryz.prog 58 #[(.int .i64 n24), (.int .i64 0), (.int .i64 8000)] w22 fun v25 w26 => (∃ (b27 : Bool), v25 = (.bool b27) ∧ bcase (!b27) (K (.int .i64 (-1)) w26) (∃ (n28 : Int), w26.cell? (((⟨g21, 0, none⟩ : Addr).add 1).add 0) = some (.int .i64 n28) ∧ ∃ (n29 : Int), w26.cell? (((⟨g21, 0, none⟩ : Addr).add 0).add 0) = some (.int .i64 n29) ∧ Cll Tryz.prog 58 #[(.int .i64 n28), (.int .i64 0), (.int .i64 (IntKind.wrap .i64 (8 * n29)))] w26 fun v30 w31 => (∃ (b32 : Bool), v30 = (.bool b32) ∧ bcase (!b32) (K (.int .i64 (-1)) w31) (∃ (n33 : Int), w31.cell? (((⟨g21, 0, none⟩ : Addr).add 0).add 0) = some (.int .i64 n33) ∧ ∃ (n34 : Int), w31.cell? (((⟨g21, 0, none⟩ : Addr).add 1).add 0) = some (.int .i64 n34) ∧ K (.int .i64 (IntKind.wrap .i64 ((IntKind.wrap .i64 (8 * n33)) - n34))) w31))))

def impl_IdleLanes.ann : Ann := (.seq .l (.seq (.seq .l (.two (.seq .l .l) .l)) (.seq .l .l)))

theorem impl_IdleLanes.start {x0_0 : Int} {x0_1 : Int} {x0_2 : Int} {w : World} {K : Value → World → Prop} (h : impl_IdleLanes.vc x0_0 x0_1 x0_2 w K) : Cll Tryz.prog 24 #[(.agg #[(.int .i64 x0_0), (.int .i64 x0_1), (.int .i64 x0_2)])] w K :=
  vcF_sound mixed (fn := Tryz.f24) (by kernel_rfl) (by kernel_rfl) (an := impl_IdleLanes.ann) (args := [(.agg #[(.int .i64 x0_0), (.int .i64 x0_1), (.int .i64 x0_2)])]) (Eq.mpr (by kernel_rfl) h)

theorem impl_IdleLanes.con {s0 : D.Cost} {r : Int} {w : World} (hp : M.impl_IdleLanes_pre s0) (hr : r = M.impl_IdleLanes s0)  :
    Cll Tryz.prog 24 #[(.agg #[(.int .i64 s0.Steps), (.int .i64 s0.Active), (.int .i64 s0.Splits)])] w (fun v_ w_ => v_ = (.int .i64 r) ∧ Ext w w_) := by
  have H := wp.impl_IdleLanes.math s0 hp
  have hB := Ext.refl w
  refine impl_IdleLanes.start ?_
  unfold impl_IdleLanes.vc
  unfold wp.impl_IdleLanes at H
  refine newBlk (fun g1_ w21 L1 P1 e22 => ?_)
  have O1 := P1
  have L1 := Nat.le_trans hB.size L1
  have hB := ethen hB e22
  refine ⟨_, (O1.at 0 rfl rfl), ?_⟩
  obtain ⟨r23, hr24⟩ : ∃ r_, r_ = M.impl_within s0.Steps 0 8000 := ⟨_, rfl⟩
  have H := H r23 hr24
  refine (impl_within.con hr24 ).mono ?_
  rintro _ w26 ⟨rfl, e27⟩
  have O1 := O1.ext e27
  have hB := ethen hB e27
  refine ⟨r23, rfl, ?_⟩
  refine bcase_mk (fun hc34 => ?_) (fun hc34 => ?_)
  · have H := (bcase_iff.1 H).1 hc34
    obtain rfl := hr.trans H.symm
    exact ⟨rfl, hB⟩
  have H := (bcase_iff.1 H).2 hc34
  refine ⟨_, (O1.at 1 rfl rfl), ?_⟩
  refine ⟨_, (O1.at 0 rfl rfl), ?_⟩
  obtain ⟨r28, hr29⟩ : ∃ r_, r_ = M.impl_within s0.Active 0 (IntKind.wrap .i64 (8 * s0.Steps)) := ⟨_, rfl⟩
  have H := H r28 hr29
  refine (impl_within.con hr29 ).mono ?_
  rintro _ w31 ⟨rfl, e32⟩
  have O1 := O1.ext e32
  have hB := ethen hB e32
  refine ⟨r28, rfl, ?_⟩
  refine bcase_mk (fun hc33 => ?_) (fun hc33 => ?_)
  · have H := (bcase_iff.1 H).1 hc33
    obtain rfl := hr.trans H.symm
    exact ⟨rfl, hB⟩
  have H := (bcase_iff.1 H).2 hc33
  refine ⟨_, (O1.at 0 rfl rfl), ?_⟩
  refine ⟨_, (O1.at 1 rfl rfl), ?_⟩
  obtain rfl := hr.trans H.symm
  exact ⟨rfl, hB⟩
def impl_Efficiency.vc (x0_0 : Int) (x0_1 : Int) (x0_2 : Int) (w : World) (K : Value → World → Prop) : Prop :=
  newK w (.cells #[(.int .i64 x0_0), (.int .i64 x0_1), (.int .i64 x0_2)] 39) fun g21 w22 => ∃ (n23 : Int), w22.cell? ((⟨g21, 0, none⟩ : Addr).add 0) = some (.int .i64 n23) ∧ ∃ (n24 : Int), w22.cell? ((⟨g21, 0, none⟩ : Addr).add 1) = some (.int .i64 n24) ∧ ∃ (n25 : Int), w22.cell? ((⟨g21, 0, none⟩ : Addr).add 2) = some (.int .i64 n25) ∧ Cll Tryz.prog 24 #[(.agg #[(.int .i64 n23), (.int .i64 n24), (.int .i64 n25)])] w22 fun v26 w27 => (∃ (n28 : Int), v26 = (.int .i64 n28) ∧ bcase (decide (n28 < 0)) (K (.int .i64 (-1)) w27) (∃ (n29 : Int), w27.cell? (((⟨g21, 0, none⟩ : Addr).add 0).add 0) = some (.int .i64 n29) ∧ bcase (n29 == 0) (K (.int .i64 1000) w27) (∃ (n30 : Int), w27.cell? (((⟨g21, 0, none⟩ : Addr).add 1).add 0) = some (.int .i64 n30) ∧ ∃ (n31 : Int), w27.cell? (((⟨g21, 0, none⟩ : Addr).add 0).add 0) = some (.int .i64 n31) ∧ (((IntKind.wrap .i64 (8 * n31)) : Int) ≠ 0 ∧ K (.int .i64 (IntKind.wrap .i64 (Int.tdiv (IntKind.wrap .i64 (1000 * n30)) (IntKind.wrap .i64 (8 * n31))))) w27))))

def impl_Efficiency.ann : Ann := (.seq .l (.seq (.one (.seq .l (.two (.seq .l .l) (.seq .l (.two (.seq .l .l) .l))))) (.seq .l .l)))

theorem impl_Efficiency.start {x0_0 : Int} {x0_1 : Int} {x0_2 : Int} {w : World} {K : Value → World → Prop} (h : impl_Efficiency.vc x0_0 x0_1 x0_2 w K) : Cll Tryz.prog 23 #[(.agg #[(.int .i64 x0_0), (.int .i64 x0_1), (.int .i64 x0_2)])] w K :=
  vcF_sound mixed (fn := Tryz.f23) (by kernel_rfl) (by kernel_rfl) (an := impl_Efficiency.ann) (args := [(.agg #[(.int .i64 x0_0), (.int .i64 x0_1), (.int .i64 x0_2)])]) (Eq.mpr (by kernel_rfl) h)

theorem impl_Efficiency.con {s0 : D.Cost} {r : Int} {w : World} (hp : M.impl_Efficiency_pre s0) (hr : r = M.impl_Efficiency s0)  :
    Cll Tryz.prog 23 #[(.agg #[(.int .i64 s0.Steps), (.int .i64 s0.Active), (.int .i64 s0.Splits)])] w (fun v_ w_ => v_ = (.int .i64 r) ∧ Ext w w_) := by
  have H := wp.impl_Efficiency.math s0 hp
  have hB := Ext.refl w
  refine impl_Efficiency.start ?_
  unfold impl_Efficiency.vc
  unfold wp.impl_Efficiency at H
  refine newBlk (fun g1_ w21 L1 P1 e22 => ?_)
  have O1 := P1
  have L1 := Nat.le_trans hB.size L1
  have hB := ethen hB e22
  refine ⟨_, (O1.at 0 rfl rfl), ?_⟩
  refine ⟨_, (O1.at 1 rfl rfl), ?_⟩
  refine ⟨_, (O1.at 2 rfl rfl), ?_⟩
  obtain ⟨hp25, H⟩ := H
  obtain ⟨r23, hr24⟩ : ∃ r_, r_ = M.impl_IdleLanes s0 := ⟨_, rfl⟩
  have H := H r23 hr24
  refine (impl_IdleLanes.con hp25 hr24 ).mono ?_
  rintro _ w26 ⟨rfl, e27⟩
  have O1 := O1.ext e27
  have hB := ethen hB e27
  refine ⟨r23, rfl, ?_⟩
  refine bcase_mk (fun hc30 => ?_) (fun hc30 => ?_)
  · have H := (bcase_iff.1 H).1 hc30
    obtain rfl := hr.trans H.symm
    exact ⟨rfl, hB⟩
  have H := (bcase_iff.1 H).2 hc30
  refine ⟨_, (O1.at 0 rfl rfl), ?_⟩
  refine bcase_mk (fun hc29 => ?_) (fun hc29 => ?_)
  · have H := (bcase_iff.1 H).1 hc29
    obtain rfl := hr.trans H.symm
    exact ⟨rfl, hB⟩
  have H := (bcase_iff.1 H).2 hc29
  refine ⟨_, (O1.at 1 rfl rfl), ?_⟩
  refine ⟨_, (O1.at 0 rfl rfl), ?_⟩
  obtain ⟨hc28, H⟩ := H
  refine ⟨hc28, ?_⟩
  obtain rfl := hr.trans H.symm
  exact ⟨rfl, hB⟩
def laws_FnCosts.vc (A0 : Option Addr) (n0 : Nat) (c0 : Nat) (w : World) (K : Value → World → Prop) : Prop :=
  Cll Tryz.prog 12 #[(.slice A0 n0 c0)] w fun v21 w22 => (∃ (b23 : Bool), v21 = (.bool b23) ∧ bcase b23 (K (.bool true) w22) (Cll Tryz.prog 13 #[(.slice A0 n0 c0)] w22 fun v24 w25 => (∃ (A26 : Option Addr) (n27 : Nat) (c28 : Nat), v24 = (.slice A26 n27 c28) ∧ Cll Tryz.prog 18 #[(.slice A0 n0 c0)] w25 fun v29 w30 => (∃ (A31 : Option Addr) (n32 : Nat) (c33 : Nat), v29 = (.slice A31 n32 c33) ∧ ((0 : Int) ≤ 0 ∧ 0 < ((n32 : Nat) : Int) ∧ ∃ a34 : Addr, A31 = some a34 ∧ ∃ (n35 : Int), w30.cell? ((a34.add (((0 : Int).toNat) * 1)).add 0) = some (.int .i64 n35) ∧ ((3 : Int) ≠ 0 ∧ Cll Tryz.prog 21 #[(.slice A26 n27 c28), (.int .i64 (Int.tmod n35 3))] w30 fun v36 w37 => (∃ u38 : Value, (∃ (n39 : Int), True ∧ ∃ (n40 : Int), True ∧ ∃ (n41 : Int), True ∧ u38 = (.agg #[(.int .i64 n39), (.int .i64 n40), (.int .i64 n41)]) ∧ ∃ u42 : Value, (∃ (b43 : Bool), u42 = (.bool b43) ∧ v36 = (.tuple #[(.agg #[(.int .i64 n39), (.int .i64 n40), (.int .i64 n41)]), (.bool b43)]) ∧ newK w37 (.cells #[(.int .i64 0), (.int .i64 0), (.int .i64 0)] 39) fun g44 w45 => stCells (⟨g44, 0, none⟩ : Addr) [(.int .i64 n39), (.int .i64 n40), (.int .i64 n41)] 0 w45 fun w46 => ∃ (n47 : Int), w46.cell? ((⟨g44, 0, none⟩ : Addr).add 0) = some (.int .i64 n47) ∧ ∃ (n48 : Int), w46.cell? ((⟨g44, 0, none⟩ : Addr).add 1) = some (.int .i64 n48) ∧ ∃ (n49 : Int), w46.cell? ((⟨g44, 0, none⟩ : Addr).add 2) = some (.int .i64 n49) ∧ ∃ (n50 : Int), w46.cell? ((⟨g44, 0, none⟩ : Addr).add 0) = some (.int .i64 n50) ∧ ∃ (n51 : Int), w46.cell? ((⟨g44, 0, none⟩ : Addr).add 1) = some (.int .i64 n51) ∧ ∃ (n52 : Int), w46.cell? ((⟨g44, 0, none⟩ : Addr).add 2) = some (.int .i64 n52) ∧ Cll Tryz.prog 22 #[(.agg #[(.int .i64 n47), (.int .i64 n48), (.int .i64 n49)]), (.agg #[(.int .i64 n50), (.int .i64 n51), (.int .i64 n52)])] w46 fun v53 w54 => (∃ (n55 : Int), True ∧ ∃ (n56 : Int), True ∧ ∃ (n57 : Int), True ∧ v53 = (.agg #[(.int .i64 n55), (.int .i64 n56), (.int .i64 n57)]) ∧ newK w54 (.cells #[(.int .i64 0), (.int .i64 0), (.int .i64 0)] 39) fun g58 w59 => stCells (⟨g58, 0, none⟩ : Addr) [(.int .i64 n55), (.int .i64 n56), (.int .i64 n57)] 0 w59 fun w60 => ∃ (n61 : Int), w60.cell? ((⟨g44, 0, none⟩ : Addr).add 0) = some (.int .i64 n61) ∧ ∃ (n62 : Int), w60.cell? ((⟨g44, 0, none⟩ : Addr).add 1) = some (.int .i64 n62) ∧ ∃ (n63 : Int), w60.cell? ((⟨g44, 0, none⟩ : Addr).add 2) = some (.int .i64 n63) ∧ Cll Tryz.prog 23 #[(.agg #[(.int .i64 n61), (.int .i64 n62), (.int .i64 n63)])] w60 fun v64 w65 => (∃ (n66 : Int), v64 = (.int .i64 n66) ∧ (∃ M67 : Nat → Prop, bcase b43 (∃ (n68 : Int), (¬ M67 (((⟨g44, 0, none⟩ : Addr).add 1)).block ∧ w65.cell? (((⟨g44, 0, none⟩ : Addr).add 1).add 0) = some (.int .i64 n68)) ∧ Cll Tryz.prog 20 #[(.slice A26 n27 c28), (.int .i64 (Int.tmod n35 3))] w65.drew fun v69 w70 => (∃ (n71 : Int), v69 = (.int .i64 n71) ∧ SameBut M67 w65 w70 ∧ bcase (n68 == n71) (∃ (n72 : Int), (¬ M67 ((⟨g44, 0, none⟩ : Addr)).block ∧ w65.cell? ((⟨g44, 0, none⟩ : Addr).add 0) = some (.int .i64 n72)) ∧ ∃ (n73 : Int), (¬ M67 ((⟨g44, 0, none⟩ : Addr)).block ∧ w65.cell? ((⟨g44, 0, none⟩ : Addr).add 1) = some (.int .i64 n73)) ∧ ∃ (n74 : Int), (¬ M67 ((⟨g44, 0, none⟩ : Addr)).block ∧ w65.cell? ((⟨g44, 0, none⟩ : Addr).add 2) = some (.int .i64 n74)) ∧ ∃ (n75 : Int), (¬ M67 (((⟨g44, 0, none⟩ : Addr).add 0)).block ∧ w65.cell? (((⟨g44, 0, none⟩ : Addr).add 0).add 0) = some (.int .i64 n75)) ∧ ∃ (n76 : Int), (¬ M67 (((⟨g44, 0, none⟩ : Addr).add 1)).block ∧ w65.cell? (((⟨g44, 0, none⟩ : Addr).add 1).add 0) = some (.int .i64 n76)) ∧ Cll Tryz.prog 24 #[(.agg #[(.int .i64 n72), (.int .i64 n73), (.int .i64 n74)])] w70 fun v77 w78 => (∃ (n79 : Int), v77 = (.int .i64 n79) ∧ SameBut M67 w65 w78 ∧ bcase (n79 == (IntKind.wrap .i64 ((IntKind.wrap .i64 (8 * n75)) - n76))) (bcase (decide (n66 ≥ 125)) (bcase (decide (n66 ≤ 1000)) (∃ (n80 : Int), (¬ M67 (((⟨g58, 0, none⟩ : Addr).add 1)).block ∧ w65.cell? (((⟨g58, 0, none⟩ : Addr).add 1).add 0) = some (.int .i64 n80)) ∧ ∃ (n81 : Int), (¬ M67 (((⟨g44, 0, none⟩ : Addr).add 1)).block ∧ w65.cell? (((⟨g44, 0, none⟩ : Addr).add 1).add 0) = some (.int .i64 n81)) ∧ bcase (n80 == (IntKind.wrap .i64 (2 * n81))) (∃ (n82 : Int), (¬ M67 (((⟨g44, 0, none⟩ : Addr).add 2)).block ∧ w65.cell? (((⟨g44, 0, none⟩ : Addr).add 2).add 0) = some (.int .i64 n82)) ∧ bcase (decide (n82 > 0)) (K (.bool true) w78) (K (.bool (n66 == 1000)) w78)) (K (.bool false) w78)) (K (.bool false) w78)) (K (.bool false) w78)) (K (.bool false) w78))) (K (.bool false) w70))) (K (.bool false) w65.drew)))))))))))))

def laws_FnCosts.ann : Ann := (.seq .l (.seq (.seq .l (.two (.seq .l .l) .l)) (.seq .l (.seq .l (.seq .l (.seq .l (.seq .l (.seq .l (.seq .l .l)))))))))

theorem laws_FnCosts.start {A0 : Option Addr} {n0 : Nat} {c0 : Nat} {w : World} {K : Value → World → Prop} (h : laws_FnCosts.vc A0 n0 c0 w K) : Cll Tryz.prog 5 #[(.slice A0 n0 c0)] w K :=
  vcF_sound mixed (fn := Tryz.f5) (by kernel_rfl) (by kernel_rfl) (an := laws_FnCosts.ann) (args := [(.slice A0 n0 c0)]) (Eq.mpr (by kernel_rfl) h)

theorem laws_FnCosts.con {xs0 : List Int} {A0 : Option Addr} {c0 : Nat} {r : Bool} {w : World} (hp : M.laws_FnCosts_pre xs0) (hr : r = M.laws_FnCosts xs0) (R0 : Row el5 w A0 xs0) (hc0 : xs0.length ≤ c0) :
    Cll Tryz.prog 5 #[(.slice A0 xs0.length c0)] w (fun v_ w_ => v_ = (.bool r) ∧ Ext w w_) := by
  have H := wp.laws_FnCosts.math xs0 hp
  have hB := Ext.refl w
  refine laws_FnCosts.start ?_
  unfold laws_FnCosts.vc
  unfold wp.laws_FnCosts at H
  obtain ⟨r21, hr22⟩ : ∃ r_, r_ = M.laws_big xs0 := ⟨_, rfl⟩
  have H := H r21 hr22
  refine (laws_big.con hr22 (R0.ext hB) hc0).mono ?_
  rintro _ w24 ⟨rfl, e25⟩
  have hB := ethen hB e25
  refine ⟨r21, rfl, ?_⟩
  refine bcase_mk (fun hc92 => ?_) (fun hc92 => ?_)
  · have H := (bcase_iff.1 H).1 hc92
    obtain rfl := hr.trans H.symm
    exact ⟨rfl, hB⟩
  have H := (bcase_iff.1 H).2 hc92
  obtain ⟨hp28, H⟩ := H
  obtain ⟨r26, hr27⟩ : ∃ r_, r_ = M.spec_DrawQuiet xs0 := ⟨_, rfl⟩
  have H := H r26 hr27
  refine (spec_DrawQuiet.con hp28 hr27 (R0.ext hB) hc0).mono ?_
  rintro _ w29 ⟨A31, c32, rfl, P2, e30⟩
  have O2 := P2.mono hB.size
  have hB := ethen hB e30
  refine ⟨A31, r26.length, c32, rfl, ?_⟩
  obtain ⟨hp35, H⟩ := H
  obtain ⟨r33, hr34⟩ : ∃ r_, r_ = M.spec_DrawPlaces xs0 := ⟨_, rfl⟩
  have H := H r33 hr34
  refine (spec_DrawPlaces.con hp35 hr34 (R0.ext hB) hc0).mono ?_
  rintro _ w36 ⟨A38, c39, rfl, P3, e37⟩
  have N2_3 := Own.apart2_new O2 P3 (Nat.le_refl _)
  have O2 := O2.ext e37
  have O3 := P3.mono hB.size
  have hB := ethen hB e37
  refine ⟨A38, r33.length, c39, rfl, ?_⟩
  obtain ⟨⟨h0_43, h1_44⟩, H⟩ := H
  obtain ⟨a41, ha42, hat40⟩ := Row.at O3.row h0_43 h1_44
  refine ⟨h0_43, h1_44, a41, ha42, ?_⟩
  refine ⟨_, (hat40 0 _ rfl), ?_⟩
  refine ⟨by decide, ?_⟩
  obtain ⟨hp48, H⟩ := H
  obtain ⟨r46, hr47⟩ : ∃ r_, r_ = M.impl_CostOf r26 (Int.tmod (rd r33 0) 3) := ⟨_, rfl⟩
  have H := H r46 hr47
  refine (impl_CostOf.con hp48 hr47 O2.row O2.le).mono ?_
  rintro _ w49 ⟨rfl, e50⟩
  have O2 := O2.ext e50
  have hB := ethen hB e50
  refine ⟨(.agg #[(.int .i64 r46.1.Steps), (.int .i64 r46.1.Active), (.int .i64 r46.1.Splits)]), ?_⟩
  refine ⟨r46.1.Steps, trivial, ?_⟩
  refine ⟨r46.1.Active, trivial, ?_⟩
  refine ⟨r46.1.Splits, trivial, ?_⟩
  refine ⟨rfl, ?_⟩
  refine ⟨(.bool r46.2), ?_⟩
  refine ⟨r46.2, rfl, ?_⟩
  refine ⟨rfl, ?_⟩
  refine newBlk (fun g4_ w51 L4 P4 e52 => ?_)
  have N2_4 := O2.apart_new L4
  have O2 := O2.ext e52
  have O4 := P4
  have L4 := Nat.le_trans hB.size L4
  have hB := ethen hB e52
  refine stBlk O4 (o := 0) (cs' := #[(.int .i64 r46.1.Steps), (.int .i64 r46.1.Active), (.int .i64 r46.1.Splits)]) rfl rfl (Nat.le_of_ble_eq_true rfl) rfl (fun w53 P4 e54 => ?_)
  have O2_ := O2.chg e54 N2_4
  have O2 := O2_
  have hB := echg hB e54 L4
  have O4 := P4
  refine ⟨_, (O4.at 0 rfl rfl), ?_⟩
  refine ⟨_, (O4.at 1 rfl rfl), ?_⟩
  refine ⟨_, (O4.at 2 rfl rfl), ?_⟩
  refine ⟨_, (O4.at 0 rfl rfl), ?_⟩
  refine ⟨_, (O4.at 1 rfl rfl), ?_⟩
  refine ⟨_, (O4.at 2 rfl rfl), ?_⟩
  obtain ⟨r55, hr56⟩ : ∃ r_, r_ = M.impl_AddCosts r46.1 r46.1 := ⟨_, rfl⟩
  have H := H r55 hr56
  refine (impl_AddCosts.con hr56 ).mono ?_
  rintro _ w58 ⟨rfl, e59⟩
  have O2 := O2.ext e59
  have O4 := O4.ext e59
  have hB := ethen hB e59
  refine ⟨r55.Steps, trivial, ?_⟩
  refine ⟨r55.Active, trivial, ?_⟩
  refine ⟨r55.Splits, trivial, ?_⟩
  refine ⟨rfl, ?_⟩
  refine newBlk (fun g5_ w60 L5 P5 e61 => ?_)
  have N2_5 := O2.apart_new L5
  have N4_5 := O4.ne L5
  have O2 := O2.ext e61
  have O4 := O4.ext e61
  have O5 := P5
  have L5 := Nat.le_trans hB.size L5
  have hB := ethen hB e61
  refine stBlk O5 (o := 0) (cs' := #[(.int .i64 r55.Steps), (.int .i64 r55.Active), (.int .i64 r55.Splits)]) rfl rfl (Nat.le_of_ble_eq_true rfl) rfl (fun w62 P5 e63 => ?_)
  have O2_ := O2.chg e63 N2_5
  have O4_ := O4.chg e63 N4_5
  have O2 := O2_
  have O4 := O4_
  have hB := echg hB e63 L5
  have O5 := P5
  refine ⟨_, (O4.at 0 rfl rfl), ?_⟩
  refine ⟨_, (O4.at 1 rfl rfl), ?_⟩
  refine ⟨_, (O4.at 2 rfl rfl), ?_⟩
  obtain ⟨hp66, H⟩ := H
  obtain ⟨r64, hr65⟩ : ∃ r_, r_ = M.impl_Efficiency r46.1 := ⟨_, rfl⟩
  have H := H r64 hr65
  refine (impl_Efficiency.con hp66 hr65 ).mono ?_
  rintro _ w67 ⟨rfl, e68⟩
  have O2 := O2.ext e68
  have O4 := O4.ext e68
  have O5 := O5.ext e68
  have hB := ethen hB e68
  refine ⟨r64, rfl, ?_⟩
  refine ⟨(fun _ => False), ?_⟩
  have hBz := hB
  have Z2 := O2
  have Z4 := O4
  have Z5 := O5
  refine bcase_mk (fun hc91 => ?_) (fun hc91 => ?_)
  · have H := (bcase_iff.1 H).1 hc91
    refine ⟨_, ⟨(fun h_ => h_), (O4.at 1 rfl rfl)⟩, ?_⟩
    have hS69 := Chg.refl (fun _ => False) w67
    have O2 := O2.ext (Ext.drew _)
    have O4 := O4.ext (Ext.drew _)
    have O5 := O5.ext (Ext.drew _)
    have hB := ethen hB (Ext.drew _)
    have hS69 := hS69.then (Ext.drew _)
    obtain ⟨hp77, H⟩ := H
    obtain ⟨r75, hr76⟩ : ∃ r_, r_ = M.impl_SumAlone r26 (Int.tmod (rd r33 0) 3) := ⟨_, rfl⟩
    have H := H r75 hr76
    refine (impl_SumAlone.con hp77 hr76 O2.row O2.le).mono ?_
    rintro _ w78 ⟨rfl, e79⟩
    have O2 := O2.ext e79
    have O4 := O4.ext e79
    have O5 := O5.ext e79
    have hB := ethen hB e79
    have hS69 := hS69.then e79
    refine ⟨r75, rfl, ?_⟩
    refine ⟨sameBut_chg hS69, ?_⟩
    refine bcase_mk (fun hc90 => ?_) (fun hc90 => ?_)
    · have H := (bcase_iff.1 H).1 hc90
      refine ⟨_, ⟨(fun h_ => h_), (Z4.at 0 rfl rfl)⟩, ?_⟩
      refine ⟨_, ⟨(fun h_ => h_), (Z4.at 1 rfl rfl)⟩, ?_⟩
      refine ⟨_, ⟨(fun h_ => h_), (Z4.at 2 rfl rfl)⟩, ?_⟩
      refine ⟨_, ⟨(fun h_ => h_), (Z4.at 0 rfl rfl)⟩, ?_⟩
      refine ⟨_, ⟨(fun h_ => h_), (Z4.at 1 rfl rfl)⟩, ?_⟩
      obtain ⟨hp82, H⟩ := H
      obtain ⟨r80, hr81⟩ : ∃ r_, r_ = M.impl_IdleLanes r46.1 := ⟨_, rfl⟩
      have H := H r80 hr81
      refine (impl_IdleLanes.con hp82 hr81 ).mono ?_
      rintro _ w83 ⟨rfl, e84⟩
      have O2 := O2.ext e84
      have O4 := O4.ext e84
      have O5 := O5.ext e84
      have hB := ethen hB e84
      have hS69 := hS69.then e84
      refine ⟨r80, rfl, ?_⟩
      refine ⟨sameBut_chg hS69, ?_⟩
      refine bcase_mk (fun hc89 => ?_) (fun hc89 => ?_)
      · have H := (bcase_iff.1 H).1 hc89
        refine bcase_mk (fun hc88 => ?_) (fun hc88 => ?_)
        · have H := (bcase_iff.1 H).1 hc88
          refine bcase_mk (fun hc87 => ?_) (fun hc87 => ?_)
          · have H := (bcase_iff.1 H).1 hc87
            refine ⟨_, ⟨(fun h_ => h_), (Z5.at 1 rfl rfl)⟩, ?_⟩
            refine ⟨_, ⟨(fun h_ => h_), (Z4.at 1 rfl rfl)⟩, ?_⟩
            refine bcase_mk (fun hc86 => ?_) (fun hc86 => ?_)
            · have H := (bcase_iff.1 H).1 hc86
              refine ⟨_, ⟨(fun h_ => h_), (Z4.at 2 rfl rfl)⟩, ?_⟩
              refine bcase_mk (fun hc85 => ?_) (fun hc85 => ?_)
              · have H := (bcase_iff.1 H).1 hc85
                obtain rfl := hr.trans H.symm
                exact ⟨rfl, hB⟩
              have H := (bcase_iff.1 H).2 hc85
              obtain rfl := hr.trans H.symm
              exact ⟨rfl, hB⟩
            have H := (bcase_iff.1 H).2 hc86
            obtain rfl := hr.trans H.symm
            exact ⟨rfl, hB⟩
          have H := (bcase_iff.1 H).2 hc87
          obtain rfl := hr.trans H.symm
          exact ⟨rfl, hB⟩
        have H := (bcase_iff.1 H).2 hc88
        obtain rfl := hr.trans H.symm
        exact ⟨rfl, hB⟩
      have H := (bcase_iff.1 H).2 hc89
      obtain rfl := hr.trans H.symm
      exact ⟨rfl, hB⟩
    have H := (bcase_iff.1 H).2 hc90
    obtain rfl := hr.trans H.symm
    exact ⟨rfl, hB⟩
  have H := (bcase_iff.1 H).2 hc91
  have O2 := O2.ext (Ext.drew _)
  have O4 := O4.ext (Ext.drew _)
  have O5 := O5.ext (Ext.drew _)
  have hB := ethen hB (Ext.drew _)
  obtain rfl := hr.trans H.symm
  exact ⟨rfl, hB⟩
end Go.V
