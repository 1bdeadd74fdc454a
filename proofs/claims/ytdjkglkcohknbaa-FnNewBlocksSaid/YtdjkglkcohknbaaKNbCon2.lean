import Derived.Test.YtdjkglkcohknbaaKNbCon1
namespace Go.V
open Go.Proofs
set_option linter.unusedVariables false
set_option linter.unusedSimpArgs false
set_option maxRecDepth 100000
def spec_l05Body.vc (p0 : Addr) (A1 : Option Addr) (n1 : Nat) (c1 : Nat) (x2 : Int) (w : World) (K : Value → World → Prop) : Prop :=
  Cll Try.prog 24 #[(.pointer (some p0)), (.int .i64 4)] w fun v21 w22 => (∃ (n23 : Int), v21 = (.int .i64 n23) ∧ LoopT (σ := (Option Addr × Nat × Nat) × Int × Unit) (fun z24 w25 next26 => bcase (decide (z24.2.1 > 0)) (bcase (decide (((z24.1.2.1 : Nat) : Int) < 20)) (Cll Try.prog 24 #[(.pointer (some p0)), (.int .i64 5)] w25 fun v28 w29 => (∃ (n30 : Int), v28 = (.int .i64 n30) ∧ bcase (n30 == 0) (bcase (x2 == 0) (next26 ((z24.1.1, z24.1.2.1, z24.1.2.2), (IntKind.wrap .i64 (z24.2.1 - 1)), ()) w29) (Cll Try.prog 24 #[(.pointer (some p0)), (.int .i64 4)] w29 fun v31 w32 => (∃ (n33 : Int), v31 = (.int .i64 n33) ∧ Run Try.prog (Instr.buildSlice 24 1 #[(0, (.agg #[(.int .i64 10), (.int .i64 n33), (.int .i64 0), (.int .i64 0)]))]) w32 fun v34 w35 => ∃ (A36 : Option Addr) (n37 c38 : Nat), v34 = .slice A36 n37 c38 ∧ Run Try.prog (Builtin.append_ #[24, 24] 24 #[(.slice z24.1.1 z24.1.2.1 z24.1.2.2), (.slice A36 n37 c38)]) w35 fun v39 w40 => ∃ (A41 : Option Addr) (n42 c43 : Nat), v39 = .slice A41 n42 c43 ∧ Cll Try.prog 52 #[(.pointer (some p0)), (.slice A41 n42 c43), (.int .i64 (IntKind.wrap .i64 (x2 - 1)))] w40 fun v44 w45 => (∃ (A46 : Option Addr) (n47 : Nat) (c48 : Nat), v44 = (.slice A46 n47 c48) ∧ Cll Try.prog 51 #[(.pointer (some p0)), (.int .i64 2)] w45 fun v49 w50 => (∃ (b51 : Bool), v49 = (.bool b51) ∧ bcase b51 (((0 : Int) ≤ ((z24.1.2.1 : Nat) : Int) ∧ ((z24.1.2.1 : Nat) : Int) < ((n47 : Nat) : Int) ∧ ∃ a52 : Addr, A46 = some a52 ∧ stCells ((a52.add ((((z24.1.2.1 : Nat) : Int).toNat) * 4)).add 2) [(.int .i64 ((n47 : Nat) : Int))] 0 w50 fun w53 => next26 ((A46, n47, c48), (IntKind.wrap .i64 (z24.2.1 - 1)), ()) w53)) (Run Try.prog (Instr.buildSlice 24 1 #[(0, (.agg #[(.int .i64 11), (.int .i64 0), (.int .i64 0), (.int .i64 0)]))]) w50 fun v54 w55 => ∃ (A56 : Option Addr) (n57 c58 : Nat), v54 = .slice A56 n57 c58 ∧ Run Try.prog (Builtin.append_ #[24, 24] 24 #[(.slice A46 n47 c48), (.slice A56 n57 c58)]) w55 fun v59 w60 => ∃ (A61 : Option Addr) (n62 c63 : Nat), v59 = .slice A61 n62 c63 ∧ ((0 : Int) ≤ ((z24.1.2.1 : Nat) : Int) ∧ ((z24.1.2.1 : Nat) : Int) < ((n62 : Nat) : Int) ∧ ∃ a64 : Addr, A61 = some a64 ∧ stCells ((a64.add ((((z24.1.2.1 : Nat) : Int).toNat) * 4)).add 2) [(.int .i64 ((n62 : Nat) : Int))] 0 w60 fun w65 => Cll Try.prog 52 #[(.pointer (some p0)), (.slice A61 n62 c63), (.int .i64 (IntKind.wrap .i64 (x2 - 1)))] w65 fun v66 w67 => (∃ (A68 : Option Addr) (n69 : Nat) (c70 : Nat), v66 = (.slice A68 n69 c70) ∧ ((0 : Int) ≤ ((n47 : Nat) : Int) ∧ ((n47 : Nat) : Int) < ((n69 : Nat) : Int) ∧ ∃ a71 : Addr, A68 = some a71 ∧ stCells ((a71.add ((((n47 : Nat) : Int).toNat) * 4)).add 2) [(.int .i64 ((n69 : Nat) : Int))] 0 w67 fun w72 => next26 ((A68, n69, c70), (IntKind.wrap .i64 (z24.2.1 - 1)), ()) w72))))))))) (bcase (n30 == 1) (bcase (x2 == 0) (next26 ((z24.1.1, z24.1.2.1, z24.1.2.2), (IntKind.wrap .i64 (z24.2.1 - 1)), ()) w29) (bcase (decide (((z24.1.2.1 : Nat) : Int) > 14)) (next26 ((z24.1.1, z24.1.2.1, z24.1.2.2), (IntKind.wrap .i64 (z24.2.1 - 1)), ()) w29) (Run Try.prog (Instr.buildSlice 24 1 #[(0, (.agg #[(.int .i64 8), (.int .i64 3), (.int .i64 0), (.int .i64 0)]))]) w29 fun v74 w75 => ∃ (A76 : Option Addr) (n77 c78 : Nat), v74 = .slice A76 n77 c78 ∧ Run Try.prog (Builtin.append_ #[24, 24] 24 #[(.slice z24.1.1 z24.1.2.1 z24.1.2.2), (.slice A76 n77 c78)]) w75 fun v79 w80 => ∃ (A81 : Option Addr) (n82 c83 : Nat), v79 = .slice A81 n82 c83 ∧ Run Try.prog (Instr.buildSlice 24 1 #[(0, (.agg #[(.int .i64 10), (.int .i64 3), (.int .i64 0), (.int .i64 0)]))]) w80 fun v84 w85 => ∃ (A86 : Option Addr) (n87 c88 : Nat), v84 = .slice A86 n87 c88 ∧ Run Try.prog (Builtin.append_ #[24, 24] 24 #[(.slice A81 n82 c83), (.slice A86 n87 c88)]) w85 fun v89 w90 => ∃ (A91 : Option Addr) (n92 c93 : Nat), v89 = .slice A91 n92 c93 ∧ Run Try.prog (Instr.buildSlice 24 3 #[(0, (.agg #[(.int .i64 3), (.int .i64 0), (.int .i64 0), (.int .i64 1)])), (1, (.agg #[(.int .i64 1), (.int .i64 2), (.int .i64 1), (.int .i64 0)])), (2, (.agg #[(.int .i64 4), (.int .i64 3), (.int .i64 3), (.int .i64 2)]))]) w90 fun v94 w95 => ∃ (A96 : Option Addr) (n97 c98 : Nat), v94 = .slice A96 n97 c98 ∧ Run Try.prog (Builtin.append_ #[24, 24] 24 #[(.slice A91 n92 c93), (.slice A96 n97 c98)]) w95 fun v99 w100 => ∃ (A101 : Option Addr) (n102 c103 : Nat), v99 = .slice A101 n102 c103 ∧ Run Try.prog (Instr.buildSlice 24 1 #[(0, (.agg #[(.int .i64 11), (.int .i64 0), (.int .i64 ((n82 : Nat) : Int)), (.int .i64 0)]))]) w100 fun v104 w105 => ∃ (A106 : Option Addr) (n107 c108 : Nat), v104 = .slice A106 n107 c108 ∧ Run Try.prog (Builtin.append_ #[24, 24] 24 #[(.slice A101 n102 c103), (.slice A106 n107 c108)]) w105 fun v109 w110 => ∃ (A111 : Option Addr) (n112 c113 : Nat), v109 = .slice A111 n112 c113 ∧ ((0 : Int) ≤ ((n82 : Nat) : Int) ∧ ((n82 : Nat) : Int) < ((n112 : Nat) : Int) ∧ ∃ a114 : Addr, A111 = some a114 ∧ stCells ((a114.add ((((n82 : Nat) : Int).toNat) * 4)).add 2) [(.int .i64 ((n112 : Nat) : Int))] 0 w110 fun w115 => next26 ((A111, n112, c113), (IntKind.wrap .i64 (z24.2.1 - 1)), ()) w115)))) (Cll Try.prog 65 #[(.pointer (some p0))] w29 fun v116 w117 => (∃ (n118 : Int), True ∧ ∃ (n119 : Int), True ∧ ∃ (n120 : Int), True ∧ ∃ (n121 : Int), True ∧ v116 = (.agg #[(.int .i64 n118), (.int .i64 n119), (.int .i64 n120), (.int .i64 n121)]) ∧ Run Try.prog (Instr.buildSlice 24 1 #[(0, (.agg #[(.int .i64 n118), (.int .i64 n119), (.int .i64 n120), (.int .i64 n121)]))]) w117 fun v122 w123 => ∃ (A124 : Option Addr) (n125 c126 : Nat), v122 = .slice A124 n125 c126 ∧ Run Try.prog (Builtin.append_ #[24, 24] 24 #[(.slice z24.1.1 z24.1.2.1 z24.1.2.2), (.slice A124 n125 c126)]) w123 fun v127 w128 => ∃ (A129 : Option Addr) (n130 c131 : Nat), v127 = .slice A129 n130 c131 ∧ next26 ((A129, n130, c131), (IntKind.wrap .i64 (z24.2.1 - 1)), ()) w128))))) (K (.slice z24.1.1 z24.1.2.1 z24.1.2.2) w25)) (K (.slice z24.1.1 z24.1.2.1 z24.1.2.2) w25)) ((A1, n1, c1), n23, ()) w22)

def spec_l05Body.ann : Ann := (.seq .l (.seq (.seq .l (.one (.loop [(1, .sl), (7, .int .i64)] (.seq (.seq .l (.two .l .l)) (.seq (.one (.seq .l (.one (.seq .l (.two (.seq (.seq .l (.two .l .l)) (.seq .l (.seq .l (.seq .l (.seq .l (.seq (.seq .l (.two (.seq .l .l) .l)) (.seq .l (.seq .l (.seq .l (.seq .l .l)))))))))) (.seq .l (.two (.seq (.seq .l (.two .l .l)) (.seq .l (.seq .l (.seq .l (.seq .l (.seq .l .l)))))) .l))))))) .l))))) (.seq .l .l)))

theorem spec_l05Body.start {p0 : Addr} {A1 : Option Addr} {n1 : Nat} {c1 : Nat} {x2 : Int} {w : World} {K : Value → World → Prop} (h : spec_l05Body.vc p0 A1 n1 c1 x2 w K) : Cll Try.prog 52 #[(.pointer (some p0)), (.slice A1 n1 c1), (.int .i64 x2)] w K :=
  vcF_sound mixed (fn := Try.f52) (by kernel_rfl) (by kernel_rfl) (an := spec_l05Body.ann) (args := [(.pointer (some p0)), (.slice A1 n1 c1), (.int .i64 x2)]) (Eq.mpr (by kernel_rfl) h)

theorem spec_l05Body.con_ (n_ : Nat) : ∀ {s0 : D.Cur} {g1_ : Nat} {A0_0 : Option Addr} {c0_0 : Nat} {xs1 : List D.Ins} {A1 : Option Addr} {c1 : Nat} {x2 : Int} {r : (List D.Ins) × D.Cur} {w : World} (hp : M.spec_l05Body_pre s0 xs1 x2) (hr : r = M.spec_l05Body s0 xs1 x2) (O1 : Blk w g1_ 77 #[(.slice A0_0 s0.b.length c0_0), (.int .i64 s0.i), (.int .i64 s0.h)]) (R0_0 : Row el5 w A0_0 s0.b) (hc0_0 : s0.b.length ≤ c0_0) (O3 : Own el60 w 0 A1 c1 xs1) (D0_0 : s0.b ≠ [] → ∀ g, InB A0_0 g → ¬ (fun k_ => k_ = g1_ ∨ InB A1 k_) g), (x2).toNat = n_ →
    Cll Try.prog 52 #[(.pointer (some (⟨g1_, 0, none⟩ : Addr))), (.slice A1 xs1.length c1), (.int .i64 x2)] w (fun v_ w_ => ∃ (A0_ : Option Addr) (c0_ : Nat), v_ = (.slice A0_ r.1.length c0_) ∧ Own el60 w_ 0 A0_ c0_ r.1 ∧ Mov w A1 A0_ ∧ Blk w_ g1_ 77 #[(.slice A0_0 r.2.b.length c0_0), (.int .i64 r.2.i), (.int .i64 r.2.h)] ∧ r.2.b = s0.b ∧ Chg (fun k_ => k_ = g1_ ∨ InB A1 k_) w w_) := by
  induction n_ using Nat.strongRecOn with
  | ind n_ IH_ =>
  intro s0 g1_ A0_0 c0_0 xs1 A1 c1 x2 r w hp hr O1 R0_0 hc0_0 O3 D0_0 hn_
  have H := wp.spec_l05Body.math s0 xs1 x2 hp
  have hB := Chg.refl (fun k_ => k_ = g1_ ∨ InB A1 k_) w
  refine spec_l05Body.start ?_
  unfold spec_l05Body.vc
  unfold wp.spec_l05Body at H
  obtain ⟨hp23, H⟩ := H
  obtain ⟨r21, hr22⟩ : ∃ r_, r_ = M.spec_l01Below s0 4 := ⟨_, rfl⟩
  have H := H r21 hr22
  refine (spec_l01Below.con hp23 hr22 O1 (R0_0.chgS hB D0_0) hc0_0 (fun hx_ => (fun g h_ hS_ => D0_0 hx_ g h_ (Or.inl hS_)))).mono ?_
  rintro _ w24 ⟨rfl, Q1, hq26, e25⟩
  rw [hq26] at Q1
  have O3 := O3.chgS e25 (box_inb (O3.apart_type O1 (by decide)))
  have hB := hB.chg e25 (fun g h_ => Or.inr (Or.inl h_))
  have O1 := Q1
  refine ⟨r21.1, rfl, ?_⟩
  obtain ⟨J49, ⟨m212, hJ211⟩, hS50⟩ := H
  refine ⟨fun m_ z_ w_ => ∃ (xs42 : List D.Ins) (i45 : Int) (i46 : Int) (i47 : Int) (A43 : Option Addr) (c44 : Nat), z_ = ((A43, xs42.length, c44), i45, ()) ∧ J49 m_ (xs42, i45, i46, i47, ()) ∧ Chg (fun k_ => k_ = g1_ ∨ InB A1 k_) w w_ ∧ Own el60 w_ 0 A43 c44 xs42 ∧ Mov w A1 A43 ∧ Blk w_ g1_ 77 #[(.slice A0_0 s0.b.length c0_0), (.int .i64 i46), (.int .i64 i47)], ⟨m212, xs1, r21.1, r21.2.i, r21.2.h, A1, c1, rfl, hJ211, hB, O3, (Mov.same _ _), O1⟩, ?_⟩
  rintro m48 _ w52 ⟨xs42, i45, i46, i47, A43, c44, rfl, hJ213, hB, O5, Mv5, O1⟩
  have H := hS50 m48 _ hJ213
  clear hS50 hJ213
  try dsimp only at H ⊢
  refine bcase_mk (fun hc209 => ?_) (fun hc209 => ?_)
  · have H := (bcase_iff.1 H).1 hc209
    refine bcase_mk (fun hc208 => ?_) (fun hc208 => ?_)
    · have H := (bcase_iff.1 H).1 hc208
      obtain ⟨hp55, H⟩ := H
      obtain ⟨r53, hr54⟩ : ∃ r_, r_ = M.spec_l01Below (⟨s0.b, i46, i47⟩ : D.Cur) 5 := ⟨_, rfl⟩
      have H := H r53 hr54
      refine (spec_l01Below.con hp55 hr54 O1 (R0_0.chgS hB D0_0) hc0_0 (fun hx_ => (fun g h_ hS_ => D0_0 hx_ g h_ (Or.inl hS_)))).mono ?_
      rintro _ w56 ⟨rfl, Q1, hq58, e57⟩
      rw [hq58] at Q1
      have O5 := O5.chgS e57 (box_inb (O5.apart_type O1 (by decide)))
      have hB := hB.chg e57 (fun g h_ => Or.inr (Or.inl h_))
      have O1 := Q1
      refine ⟨r53.1, rfl, ?_⟩
      refine bcase_mk (fun hc207 => ?_) (fun hc207 => ?_)
      · have H := (bcase_iff.1 H).1 hc207
        refine bcase_mk (fun hc137 => ?_) (fun hc137 => ?_)
        · have H := (bcase_iff.1 H).1 hc137
          obtain ⟨m59, hm60, hJ61⟩ := H
          exact ⟨m59, hm60, xs42, (IntKind.wrap .i64 (i45 - 1)), r53.2.i, r53.2.h, A43, c44, rfl, hJ61, hB, O5, Mv5, O1⟩
        have H := (bcase_iff.1 H).2 hc137
        obtain ⟨hp64, H⟩ := H
        obtain ⟨r62, hr63⟩ : ∃ r_, r_ = M.spec_l01Below (⟨s0.b, r53.2.i, r53.2.h⟩ : D.Cur) 4 := ⟨_, rfl⟩
        have H := H r62 hr63
        refine (spec_l01Below.con hp64 hr63 O1 (R0_0.chgS hB D0_0) hc0_0 (fun hx_ => (fun g h_ hS_ => D0_0 hx_ g h_ (Or.inl hS_)))).mono ?_
        rintro _ w65 ⟨rfl, Q1, hq67, e66⟩
        rw [hq67] at Q1
        have O5 := O5.chgS e66 (box_inb (O5.apart_type O1 (by decide)))
        have hB := hB.chg e66 (fun g h_ => Or.inr (Or.inl h_))
        have O1 := Q1
        refine ⟨r62.1, rfl, ?_⟩
        refine buildOwn el60 ([(⟨10, r62.1, 0, 0⟩ : D.Ins)] : List D.Ins) (fun _ => by kernel_rfl) rfl (fun A68 w69 P6 e70 => ?_)
        have N6_1 := P6.apart_old O1.lt
        have N5_6 := Own.apart2_new O5 P6 (Nat.le_refl _)
        have O1 := O1.ext e70
        have O5 := O5.ext e70
        have O6 := P6.mono hB.size
        have hB := hB.then e70
        obtain ⟨hl75, H⟩ := H
        refine appOwnB slt24 slt24.under O5 O6.row (Nat.zero_le _) rfl (by first | rfl | omega | (simp; done) | (simp; omega)) hl75 (fun A71 c72 w73 P5 e74 => ?_)
        have N5_1_ := Apart.app (O5.apart_type O1 (by decide)) e74 O1.lt
        have O1 := O1.app e74 (O5.apart_type O1 (by decide))
        have N6_5_ := Apart2.app (N5_6).symm e74 O6
        have O6 := O6.app e74 (N5_6).symm
        have N5_1 := N5_1_
        have N6_5 := N6_5_
        have hBs_ := hB.size
        have hB := hB.app e74 (fun g h_ => (mv_or Mv5 h_ (fun h_ => (Or.inr h_))))
        have O5 := P5
        have Mw5 := Mov.trans Mv5 e74.blk hBs_
        obtain ⟨hp78, H⟩ := H
        obtain ⟨r76, hr77⟩ : ∃ r_, r_ = M.spec_l05Body (⟨s0.b, r62.2.i, r62.2.h⟩ : D.Cur) (xs42 ++ ([(⟨10, r62.1, 0, 0⟩ : D.Ins)] : List D.Ins)) (IntKind.wrap .i64 (x2 - 1)) := ⟨_, rfl⟩
        have H := H r76 hr77
        refine (IH_ _ (by rw [← hn_]; exact spec_l05Body.dec hp (by assumption)) hp78 hr77 O1 (R0_0.chgS hB D0_0) hc0_0 (O5.mono (Nat.zero_le _)) (fun hx_ => (fun g h_ => (fun hS_ => hS_.elim ((fun g h_ hS_ => D0_0 hx_ g h_ (Or.inl hS_)) g h_) ((fun g h_ hS_ => (mv_or Mw5 hS_ (fun h_ => (Or.inr h_))).elim (fun h3_ => Nat.not_le.2 (R0_0.old hx_ g h_) h3_) (D0_0 hx_ g h_)) g h_)))) rfl).mono ?_
        rintro _ w79 ⟨A81, c82, rfl, P7, Mv7, Q1, hq83, e80⟩
        rw [hq83] at Q1
        have Mw7 := Mov.trans Mw5 Mv7 hB.size
        have hB := hB.chg e80 (fun g => (fun hS_ => hS_.elim ((fun g h_ => Or.inr (Or.inl h_)) g) ((fun g h_ => (mv_or Mw5 h_ (fun h_ => (Or.inr h_)))) g)))
        have O1 := Q1
        have O7 := P7
        refine ⟨A81, r76.1.length, c82, rfl, ?_⟩
        obtain ⟨hp86, H⟩ := H
        obtain ⟨r84, hr85⟩ : ∃ r_, r_ = M.spec_l01Once (⟨s0.b, r76.2.i, r76.2.h⟩ : D.Cur) 2 := ⟨_, rfl⟩
        have H := H r84 hr85
        refine (spec_l01Once.con hp86 hr85 O1 (R0_0.chgS hB D0_0) hc0_0 (fun hx_ => (fun g h_ hS_ => D0_0 hx_ g h_ (Or.inl hS_)))).mono ?_
        rintro _ w87 ⟨rfl, Q1, hq89, e88⟩
        rw [hq89] at Q1
        have O7 := O7.chgS e88 (box_inb (O7.apart_type O1 (by decide)))
        have hB := hB.chg e88 (fun g h_ => Or.inr (Or.inl h_))
        have O1 := Q1
        refine ⟨r84.1, rfl, ?_⟩
        refine bcase_mk (fun hc136 => ?_) (fun hc136 => ?_)
        · have H := (bcase_iff.1 H).1 hc136
          obtain ⟨⟨h0_93, h1_94⟩, H⟩ := H
          obtain ⟨a91, ha92, hat90⟩ := Row.at O7.row h0_93 h1_94
          refine ⟨h0_93, h1_94, a91, ha92, ?_⟩
          refine Own.storeAt O7 ha92 h0_93 h1_94 2 [(.int .i64 ((r76.1.length : Nat) : Int))] (⟨(rd r76.1 ((xs42.length : Nat) : Int)).Op, (rd r76.1 ((xs42.length : Nat) : Int)).A, ((r76.1.length : Nat) : Int), (rd r76.1 ((xs42.length : Nat) : Int)).C⟩ : D.Ins) rfl (Nat.le_of_ble_eq_true rfl) rfl (fun w95 P7 e96 hb97 => ?_)
          have O1_ := O1.chg e96 (fun h_ => ((O7.apart_type O1 (by decide))) _ ha92 h_.symm)
          have O1 := O1_
          have hB := hB.chgb e96 (mv_or Mw7 ⟨_, ha92, rfl⟩ (fun h_ => (Or.inr h_)))
          have O7 := P7
          obtain ⟨m98, hm99, hJ100⟩ := H
          exact ⟨m98, hm99, (List.set r76.1 (((xs42.length : Nat) : Int).toNat) (⟨(rd r76.1 ((xs42.length : Nat) : Int)).Op, (rd r76.1 ((xs42.length : Nat) : Int)).A, ((r76.1.length : Nat) : Int), (rd r76.1 ((xs42.length : Nat) : Int)).C⟩ : D.Ins)), (IntKind.wrap .i64 (i45 - 1)), r84.2.i, r84.2.h, A81, c82, (by first | rfl | (simp only [List.length_set])), hJ100, hB, (by first | exact O7 | (simp only [List.length_set]; exact O7)), Mw7, (by first | exact O1 | (simp only [List.length_set]; exact O1))⟩
        have H := (bcase_iff.1 H).2 hc136
        refine buildOwn el60 ([(⟨11, 0, 0, 0⟩ : D.Ins)] : List D.Ins) (fun _ => by kernel_rfl) rfl (fun A101 w102 P8 e103 => ?_)
        have N8_1 := P8.apart_old O1.lt
        have N7_8 := Own.apart2_new O7 P8 (Nat.le_refl _)
        have O1 := O1.ext e103
        have O7 := O7.ext e103
        have O8 := P8.mono hB.size
        have hB := hB.then e103
        obtain ⟨hl108, H⟩ := H
        refine appOwnB slt24 slt24.under O7 O8.row (Nat.zero_le _) rfl (by first | rfl | omega | (simp; done) | (simp; omega)) hl108 (fun A104 c105 w106 P7 e107 => ?_)
        have N7_1_ := Apart.app (O7.apart_type O1 (by decide)) e107 O1.lt
        have O1 := O1.app e107 (O7.apart_type O1 (by decide))
        have N8_7_ := Apart2.app (N7_8).symm e107 O8
        have O8 := O8.app e107 (N7_8).symm
        have N7_1 := N7_1_
        have N8_7 := N8_7_
        have hBs_ := hB.size
        have hB := hB.app e107 (fun g h_ => (mv_or Mw7 h_ (fun h_ => (Or.inr h_))))
        have O7 := P7
        have Mw7 := Mov.trans Mw7 e107.blk hBs_
        obtain ⟨⟨h0_112, h1_113⟩, H⟩ := H
        obtain ⟨a110, ha111, hat109⟩ := Row.at O7.row h0_112 h1_113
        refine ⟨h0_112, h1_113, a110, ha111, ?_⟩
        refine Own.storeAt O7 ha111 h0_112 h1_113 2 [(.int .i64 ((((r76.1 ++ ([(⟨11, 0, 0, 0⟩ : D.Ins)] : List D.Ins))).length : Nat) : Int))] (⟨(rd (r76.1 ++ ([(⟨11, 0, 0, 0⟩ : D.Ins)] : List D.Ins)) ((xs42.length : Nat) : Int)).Op, (rd (r76.1 ++ ([(⟨11, 0, 0, 0⟩ : D.Ins)] : List D.Ins)) ((xs42.length : Nat) : Int)).A, ((((r76.1 ++ ([(⟨11, 0, 0, 0⟩ : D.Ins)] : List D.Ins))).length : Nat) : Int), (rd (r76.1 ++ ([(⟨11, 0, 0, 0⟩ : D.Ins)] : List D.Ins)) ((xs42.length : Nat) : Int)).C⟩ : D.Ins) rfl (Nat.le_of_ble_eq_true rfl) rfl (fun w114 P7 e115 hb116 => ?_)
        have O1_ := O1.chg e115 (fun h_ => (N7_1) _ ha111 h_.symm)
        have O1 := O1_
        have hB := hB.chgb e115 (mv_or Mw7 ⟨_, ha111, rfl⟩ (fun h_ => (Or.inr h_)))
        have O7 := P7
        obtain ⟨hp119, H⟩ := H
        obtain ⟨r117, hr118⟩ : ∃ r_, r_ = M.spec_l05Body (⟨s0.b, r84.2.i, r84.2.h⟩ : D.Cur) (List.set (r76.1 ++ ([(⟨11, 0, 0, 0⟩ : D.Ins)] : List D.Ins)) (((xs42.length : Nat) : Int).toNat) (⟨(rd (r76.1 ++ ([(⟨11, 0, 0, 0⟩ : D.Ins)] : List D.Ins)) ((xs42.length : Nat) : Int)).Op, (rd (r76.1 ++ ([(⟨11, 0, 0, 0⟩ : D.Ins)] : List D.Ins)) ((xs42.length : Nat) : Int)).A, ((((r76.1 ++ ([(⟨11, 0, 0, 0⟩ : D.Ins)] : List D.Ins))).length : Nat) : Int), (rd (r76.1 ++ ([(⟨11, 0, 0, 0⟩ : D.Ins)] : List D.Ins)) ((xs42.length : Nat) : Int)).C⟩ : D.Ins)) (IntKind.wrap .i64 (x2 - 1)) := ⟨_, rfl⟩
        have H := H r117 hr118
        refine (cllArgs (by first | (simp only [List.length_set]; done) | (simp; done)) (IH_ _ (by rw [← hn_]; exact spec_l05Body.dec hp (by assumption)) hp119 hr118 O1 (R0_0.chgS hB D0_0) hc0_0 (O7.mono (Nat.zero_le _)) (fun hx_ => (fun g h_ => (fun hS_ => hS_.elim ((fun g h_ hS_ => D0_0 hx_ g h_ (Or.inl hS_)) g h_) ((fun g h_ hS_ => (mv_or Mw7 hS_ (fun h_ => (Or.inr h_))).elim (fun h3_ => Nat.not_le.2 (R0_0.old hx_ g h_) h3_) (D0_0 hx_ g h_)) g h_)))) rfl)).mono ?_
        rintro _ w120 ⟨A122, c123, rfl, P9, Mv9, Q1, hq124, e121⟩
        rw [hq124] at Q1
        have Mw9 := Mov.trans Mw7 Mv9 hB.size
        have hB := hB.chg e121 (fun g => (fun hS_ => hS_.elim ((fun g h_ => Or.inr (Or.inl h_)) g) ((fun g h_ => (mv_or Mw7 h_ (fun h_ => (Or.inr h_)))) g)))
        have O1 := Q1
        have O9 := P9
        refine ⟨A122, r117.1.length, c123, rfl, ?_⟩
        obtain ⟨⟨h0_128, h1_129⟩, H⟩ := H
        obtain ⟨a126, ha127, hat125⟩ := Row.at O9.row h0_128 h1_129
        refine ⟨h0_128, h1_129, a126, ha127, ?_⟩
        refine Own.storeAt O9 ha127 h0_128 h1_129 2 [(.int .i64 ((r117.1.length : Nat) : Int))] (⟨(rd r117.1 ((r76.1.length : Nat) : Int)).Op, (rd r117.1 ((r76.1.length : Nat) : Int)).A, ((r117.1.length : Nat) : Int), (rd r117.1 ((r76.1.length : Nat) : Int)).C⟩ : D.Ins) rfl (Nat.le_of_ble_eq_true rfl) rfl (fun w130 P9 e131 hb132 => ?_)
        have O1_ := O1.chg e131 (fun h_ => ((O9.apart_type O1 (by decide))) _ ha127 h_.symm)
        have O1 := O1_
        have hB := hB.chgb e131 (mv_or Mw9 ⟨_, ha127, rfl⟩ (fun h_ => (Or.inr h_)))
        have O9 := P9
        obtain ⟨m133, hm134, hJ135⟩ := H
        exact ⟨m133, hm134, (List.set r117.1 (((r76.1.length : Nat) : Int).toNat) (⟨(rd r117.1 ((r76.1.length : Nat) : Int)).Op, (rd r117.1 ((r76.1.length : Nat) : Int)).A, ((r117.1.length : Nat) : Int), (rd r117.1 ((r76.1.length : Nat) : Int)).C⟩ : D.Ins)), (IntKind.wrap .i64 (i45 - 1)), r117.2.i, r117.2.h, A122, c123, (by first | rfl | (simp only [List.length_set])), hJ135, hB, (by first | exact O9 | (simp only [List.length_set]; exact O9)), Mw9, (by first | exact O1 | (simp only [List.length_set]; exact O1))⟩
      have H := (bcase_iff.1 H).2 hc207
      refine bcase_mk (fun hc206 => ?_) (fun hc206 => ?_)
      · have H := (bcase_iff.1 H).1 hc206
        refine bcase_mk (fun hc188 => ?_) (fun hc188 => ?_)
        · have H := (bcase_iff.1 H).1 hc188
          obtain ⟨m138, hm139, hJ140⟩ := H
          exact ⟨m138, hm139, xs42, (IntKind.wrap .i64 (i45 - 1)), r53.2.i, r53.2.h, A43, c44, rfl, hJ140, hB, O5, Mv5, O1⟩
        have H := (bcase_iff.1 H).2 hc188
        refine bcase_mk (fun hc187 => ?_) (fun hc187 => ?_)
        · have H := (bcase_iff.1 H).1 hc187
          obtain ⟨m141, hm142, hJ143⟩ := H
          exact ⟨m141, hm142, xs42, (IntKind.wrap .i64 (i45 - 1)), r53.2.i, r53.2.h, A43, c44, rfl, hJ143, hB, O5, Mv5, O1⟩
        have H := (bcase_iff.1 H).2 hc187
        refine buildOwn el60 ([(⟨8, 3, 0, 0⟩ : D.Ins)] : List D.Ins) (fun _ => by kernel_rfl) rfl (fun A144 w145 P10 e146 => ?_)
        have N10_1 := P10.apart_old O1.lt
        have N5_10 := Own.apart2_new O5 P10 (Nat.le_refl _)
        have O1 := O1.ext e146
        have O5 := O5.ext e146
        have O10 := P10.mono hB.size
        have hB := hB.then e146
        obtain ⟨hl151, H⟩ := H
        refine appOwnB slt24 slt24.under O5 O10.row (Nat.zero_le _) rfl (by first | rfl | omega | (simp; done) | (simp; omega)) hl151 (fun A147 c148 w149 P5 e150 => ?_)
        have N5_1_ := Apart.app (O5.apart_type O1 (by decide)) e150 O1.lt
        have O1 := O1.app e150 (O5.apart_type O1 (by decide))
        have N10_5_ := Apart2.app (N5_10).symm e150 O10
        have O10 := O10.app e150 (N5_10).symm
        have N5_1 := N5_1_
        have N10_5 := N10_5_
        have hBs_ := hB.size
        have hB := hB.app e150 (fun g h_ => (mv_or Mv5 h_ (fun h_ => (Or.inr h_))))
        have O5 := P5
        have Mw5 := Mov.trans Mv5 e150.blk hBs_
        refine buildOwn el60 ([(⟨10, 3, 0, 0⟩ : D.Ins)] : List D.Ins) (fun _ => by kernel_rfl) rfl (fun A152 w153 P11 e154 => ?_)
        have N11_1 := P11.apart_old O1.lt
        have N5_11 := Own.apart2_new O5 P11 (Nat.le_refl _)
        have O1 := O1.ext e154
        have O5 := O5.ext e154
        have O11 := P11.mono hB.size
        have hB := hB.then e154
        obtain ⟨hl159, H⟩ := H
        refine appOwnB slt24 slt24.under O5 O11.row (Nat.zero_le _) rfl (by first | rfl | omega | (simp; done) | (simp; omega)) hl159 (fun A155 c156 w157 P5 e158 => ?_)
        have N5_1_ := Apart.app N5_1 e158 O1.lt
        have O1 := O1.app e158 N5_1
        have N11_5_ := Apart2.app (N5_11).symm e158 O11
        have O11 := O11.app e158 (N5_11).symm
        have N5_1 := N5_1_
        have N11_5 := N11_5_
        have hBs_ := hB.size
        have hB := hB.app e158 (fun g h_ => (mv_or Mw5 h_ (fun h_ => (Or.inr h_))))
        have O5 := P5
        have Mw5 := Mov.trans Mw5 e158.blk hBs_
        refine buildOwn el60 ([(⟨3, 0, 0, 1⟩ : D.Ins), (⟨1, 2, 1, 0⟩ : D.Ins), (⟨4, 3, 3, 2⟩ : D.Ins)] : List D.Ins) (fun _ => by kernel_rfl) rfl (fun A160 w161 P12 e162 => ?_)
        have N12_1 := P12.apart_old O1.lt
        have N5_12 := Own.apart2_new O5 P12 (Nat.le_refl _)
        have O1 := O1.ext e162
        have O5 := O5.ext e162
        have O12 := P12.mono hB.size
        have hB := hB.then e162
        obtain ⟨hl167, H⟩ := H
        refine appOwnB slt24 slt24.under O5 O12.row (Nat.zero_le _) rfl (by first | rfl | omega | (simp; done) | (simp; omega)) hl167 (fun A163 c164 w165 P5 e166 => ?_)
        have N5_1_ := Apart.app N5_1 e166 O1.lt
        have O1 := O1.app e166 N5_1
        have N12_5_ := Apart2.app (N5_12).symm e166 O12
        have O12 := O12.app e166 (N5_12).symm
        have N5_1 := N5_1_
        have N12_5 := N12_5_
        have hBs_ := hB.size
        have hB := hB.app e166 (fun g h_ => (mv_or Mw5 h_ (fun h_ => (Or.inr h_))))
        have O5 := P5
        have Mw5 := Mov.trans Mw5 e166.blk hBs_
        refine buildOwn el60 ([(⟨11, 0, ((((xs42 ++ ([(⟨8, 3, 0, 0⟩ : D.Ins)] : List D.Ins))).length : Nat) : Int), 0⟩ : D.Ins)] : List D.Ins) (fun _ => by kernel_rfl) rfl (fun A168 w169 P13 e170 => ?_)
        have N13_1 := P13.apart_old O1.lt
        have N5_13 := Own.apart2_new O5 P13 (Nat.le_refl _)
        have O1 := O1.ext e170
        have O5 := O5.ext e170
        have O13 := P13.mono hB.size
        have hB := hB.then e170
        obtain ⟨hl175, H⟩ := H
        refine appOwnB slt24 slt24.under O5 O13.row (Nat.zero_le _) rfl (by first | rfl | omega | (simp; done) | (simp; omega)) hl175 (fun A171 c172 w173 P5 e174 => ?_)
        have N5_1_ := Apart.app N5_1 e174 O1.lt
        have O1 := O1.app e174 N5_1
        have N13_5_ := Apart2.app (N5_13).symm e174 O13
        have O13 := O13.app e174 (N5_13).symm
        have N5_1 := N5_1_
        have N13_5 := N13_5_
        have hBs_ := hB.size
        have hB := hB.app e174 (fun g h_ => (mv_or Mw5 h_ (fun h_ => (Or.inr h_))))
        have O5 := P5
        have Mw5 := Mov.trans Mw5 e174.blk hBs_
        obtain ⟨⟨h0_179, h1_180⟩, H⟩ := H
        obtain ⟨a177, ha178, hat176⟩ := Row.at O5.row h0_179 h1_180
        refine ⟨h0_179, h1_180, a177, ha178, ?_⟩
        refine Own.storeAt O5 ha178 h0_179 h1_180 2 [(.int .i64 (((((((xs42 ++ ([(⟨8, 3, 0, 0⟩ : D.Ins)] : List D.Ins)) ++ ([(⟨10, 3, 0, 0⟩ : D.Ins)] : List D.Ins)) ++ ([(⟨3, 0, 0, 1⟩ : D.Ins), (⟨1, 2, 1, 0⟩ : D.Ins), (⟨4, 3, 3, 2⟩ : D.Ins)] : List D.Ins)) ++ ([(⟨11, 0, ((((xs42 ++ ([(⟨8, 3, 0, 0⟩ : D.Ins)] : List D.Ins))).length : Nat) : Int), 0⟩ : D.Ins)] : List D.Ins))).length : Nat) : Int))] (⟨(rd ((((xs42 ++ ([(⟨8, 3, 0, 0⟩ : D.Ins)] : List D.Ins)) ++ ([(⟨10, 3, 0, 0⟩ : D.Ins)] : List D.Ins)) ++ ([(⟨3, 0, 0, 1⟩ : D.Ins), (⟨1, 2, 1, 0⟩ : D.Ins), (⟨4, 3, 3, 2⟩ : D.Ins)] : List D.Ins)) ++ ([(⟨11, 0, ((((xs42 ++ ([(⟨8, 3, 0, 0⟩ : D.Ins)] : List D.Ins))).length : Nat) : Int), 0⟩ : D.Ins)] : List D.Ins)) ((((xs42 ++ ([(⟨8, 3, 0, 0⟩ : D.Ins)] : List D.Ins))).length : Nat) : Int)).Op, (rd ((((xs42 ++ ([(⟨8, 3, 0, 0⟩ : D.Ins)] : List D.Ins)) ++ ([(⟨10, 3, 0, 0⟩ : D.Ins)] : List D.Ins)) ++ ([(⟨3, 0, 0, 1⟩ : D.Ins), (⟨1, 2, 1, 0⟩ : D.Ins), (⟨4, 3, 3, 2⟩ : D.Ins)] : List D.Ins)) ++ ([(⟨11, 0, ((((xs42 ++ ([(⟨8, 3, 0, 0⟩ : D.Ins)] : List D.Ins))).length : Nat) : Int), 0⟩ : D.Ins)] : List D.Ins)) ((((xs42 ++ ([(⟨8, 3, 0, 0⟩ : D.Ins)] : List D.Ins))).length : Nat) : Int)).A, (((((((xs42 ++ ([(⟨8, 3, 0, 0⟩ : D.Ins)] : List D.Ins)) ++ ([(⟨10, 3, 0, 0⟩ : D.Ins)] : List D.Ins)) ++ ([(⟨3, 0, 0, 1⟩ : D.Ins), (⟨1, 2, 1, 0⟩ : D.Ins), (⟨4, 3, 3, 2⟩ : D.Ins)] : List D.Ins)) ++ ([(⟨11, 0, ((((xs42 ++ ([(⟨8, 3, 0, 0⟩ : D.Ins)] : List D.Ins))).length : Nat) : Int), 0⟩ : D.Ins)] : List D.Ins))).length : Nat) : Int), (rd ((((xs42 ++ ([(⟨8, 3, 0, 0⟩ : D.Ins)] : List D.Ins)) ++ ([(⟨10, 3, 0, 0⟩ : D.Ins)] : List D.Ins)) ++ ([(⟨3, 0, 0, 1⟩ : D.Ins), (⟨1, 2, 1, 0⟩ : D.Ins), (⟨4, 3, 3, 2⟩ : D.Ins)] : List D.Ins)) ++ ([(⟨11, 0, ((((xs42 ++ ([(⟨8, 3, 0, 0⟩ : D.Ins)] : List D.Ins))).length : Nat) : Int), 0⟩ : D.Ins)] : List D.Ins)) ((((xs42 ++ ([(⟨8, 3, 0, 0⟩ : D.Ins)] : List D.Ins))).length : Nat) : Int)).C⟩ : D.Ins) rfl (Nat.le_of_ble_eq_true rfl) rfl (fun w181 P5 e182 hb183 => ?_)
        have O1_ := O1.chg e182 (fun h_ => (N5_1) _ ha178 h_.symm)
        have O1 := O1_
        have hB := hB.chgb e182 (mv_or Mw5 ⟨_, ha178, rfl⟩ (fun h_ => (Or.inr h_)))
        have O5 := P5
        obtain ⟨m184, hm185, hJ186⟩ := H
        exact ⟨m184, hm185, (List.set ((((xs42 ++ ([(⟨8, 3, 0, 0⟩ : D.Ins)] : List D.Ins)) ++ ([(⟨10, 3, 0, 0⟩ : D.Ins)] : List D.Ins)) ++ ([(⟨3, 0, 0, 1⟩ : D.Ins), (⟨1, 2, 1, 0⟩ : D.Ins), (⟨4, 3, 3, 2⟩ : D.Ins)] : List D.Ins)) ++ ([(⟨11, 0, ((((xs42 ++ ([(⟨8, 3, 0, 0⟩ : D.Ins)] : List D.Ins))).length : Nat) : Int), 0⟩ : D.Ins)] : List D.Ins)) (((((xs42 ++ ([(⟨8, 3, 0, 0⟩ : D.Ins)] : List D.Ins))).length : Nat) : Int).toNat) (⟨(rd ((((xs42 ++ ([(⟨8, 3, 0, 0⟩ : D.Ins)] : List D.Ins)) ++ ([(⟨10, 3, 0, 0⟩ : D.Ins)] : List D.Ins)) ++ ([(⟨3, 0, 0, 1⟩ : D.Ins), (⟨1, 2, 1, 0⟩ : D.Ins), (⟨4, 3, 3, 2⟩ : D.Ins)] : List D.Ins)) ++ ([(⟨11, 0, ((((xs42 ++ ([(⟨8, 3, 0, 0⟩ : D.Ins)] : List D.Ins))).length : Nat) : Int), 0⟩ : D.Ins)] : List D.Ins)) ((((xs42 ++ ([(⟨8, 3, 0, 0⟩ : D.Ins)] : List D.Ins))).length : Nat) : Int)).Op, (rd ((((xs42 ++ ([(⟨8, 3, 0, 0⟩ : D.Ins)] : List D.Ins)) ++ ([(⟨10, 3, 0, 0⟩ : D.Ins)] : List D.Ins)) ++ ([(⟨3, 0, 0, 1⟩ : D.Ins), (⟨1, 2, 1, 0⟩ : D.Ins), (⟨4, 3, 3, 2⟩ : D.Ins)] : List D.Ins)) ++ ([(⟨11, 0, ((((xs42 ++ ([(⟨8, 3, 0, 0⟩ : D.Ins)] : List D.Ins))).length : Nat) : Int), 0⟩ : D.Ins)] : List D.Ins)) ((((xs42 ++ ([(⟨8, 3, 0, 0⟩ : D.Ins)] : List D.Ins))).length : Nat) : Int)).A, (((((((xs42 ++ ([(⟨8, 3, 0, 0⟩ : D.Ins)] : List D.Ins)) ++ ([(⟨10, 3, 0, 0⟩ : D.Ins)] : List D.Ins)) ++ ([(⟨3, 0, 0, 1⟩ : D.Ins), (⟨1, 2, 1, 0⟩ : D.Ins), (⟨4, 3, 3, 2⟩ : D.Ins)] : List D.Ins)) ++ ([(⟨11, 0, ((((xs42 ++ ([(⟨8, 3, 0, 0⟩ : D.Ins)] : List D.Ins))).length : Nat) : Int), 0⟩ : D.Ins)] : List D.Ins))).length : Nat) : Int), (rd ((((xs42 ++ ([(⟨8, 3, 0, 0⟩ : D.Ins)] : List D.Ins)) ++ ([(⟨10, 3, 0, 0⟩ : D.Ins)] : List D.Ins)) ++ ([(⟨3, 0, 0, 1⟩ : D.Ins), (⟨1, 2, 1, 0⟩ : D.Ins), (⟨4, 3, 3, 2⟩ : D.Ins)] : List D.Ins)) ++ ([(⟨11, 0, ((((xs42 ++ ([(⟨8, 3, 0, 0⟩ : D.Ins)] : List D.Ins))).length : Nat) : Int), 0⟩ : D.Ins)] : List D.Ins)) ((((xs42 ++ ([(⟨8, 3, 0, 0⟩ : D.Ins)] : List D.Ins))).length : Nat) : Int)).C⟩ : D.Ins)), (IntKind.wrap .i64 (i45 - 1)), r53.2.i, r53.2.h, A171, c172, (by first | rfl | (simp only [List.length_set])), hJ186, hB, (by first | exact O5 | (simp only [List.length_set]; exact O5)), Mw5, (by first | exact O1 | (simp only [List.length_set]; exact O1))⟩
      have H := (bcase_iff.1 H).2 hc206
      obtain ⟨hp191, H⟩ := H
      obtain ⟨r189, hr190⟩ : ∃ r_, r_ = M.spec_l04Plain (⟨s0.b, r53.2.i, r53.2.h⟩ : D.Cur) := ⟨_, rfl⟩
      have H := H r189 hr190
      refine (spec_l04Plain.con hp191 hr190 O1 (R0_0.chgS hB D0_0) hc0_0 (fun hx_ => (fun g h_ hS_ => D0_0 hx_ g h_ (Or.inl hS_)))).mono ?_
      rintro _ w192 ⟨rfl, Q1, hq194, e193⟩
      rw [hq194] at Q1
      have O5 := O5.chgS e193 (box_inb (O5.apart_type O1 (by decide)))
      have hB := hB.chg e193 (fun g h_ => Or.inr (Or.inl h_))
      have O1 := Q1
      refine ⟨r189.1.Op, trivial, ?_⟩
      refine ⟨r189.1.A, trivial, ?_⟩
      refine ⟨r189.1.B, trivial, ?_⟩
      refine ⟨r189.1.C, trivial, ?_⟩
      refine ⟨rfl, ?_⟩
      refine buildOwn el60 ([r189.1] : List D.Ins) (fun _ => by kernel_rfl) rfl (fun A195 w196 P14 e197 => ?_)
      have N14_1 := P14.apart_old O1.lt
      have N5_14 := Own.apart2_new O5 P14 (Nat.le_refl _)
      have O1 := O1.ext e197
      have O5 := O5.ext e197
      have O14 := P14.mono hB.size
      have hB := hB.then e197
      obtain ⟨hl202, H⟩ := H
      refine appOwnB slt24 slt24.under O5 O14.row (Nat.zero_le _) rfl (by first | rfl | omega | (simp; done) | (simp; omega)) hl202 (fun A198 c199 w200 P5 e201 => ?_)
      have N5_1_ := Apart.app (O5.apart_type O1 (by decide)) e201 O1.lt
      have O1 := O1.app e201 (O5.apart_type O1 (by decide))
      have N14_5_ := Apart2.app (N5_14).symm e201 O14
      have O14 := O14.app e201 (N5_14).symm
      have N5_1 := N5_1_
      have N14_5 := N14_5_
      have hBs_ := hB.size
      have hB := hB.app e201 (fun g h_ => (mv_or Mv5 h_ (fun h_ => (Or.inr h_))))
      have O5 := P5
      have Mw5 := Mov.trans Mv5 e201.blk hBs_
      obtain ⟨m203, hm204, hJ205⟩ := H
      exact ⟨m203, hm204, (xs42 ++ ([r189.1] : List D.Ins)), (IntKind.wrap .i64 (i45 - 1)), r189.2.i, r189.2.h, A198, c199, rfl, hJ205, hB, O5, Mw5, O1⟩
    have H := (bcase_iff.1 H).2 hc208
    obtain rfl := hr.trans H.symm
    exact ⟨A43, c44, rfl, (O5.mono (Nat.zero_le _)), Mv5, O1, rfl, hB⟩
  have H := (bcase_iff.1 H).2 hc209
  obtain rfl := hr.trans H.symm
  exact ⟨A43, c44, rfl, (O5.mono (Nat.zero_le _)), Mv5, O1, rfl, hB⟩

theorem spec_l05Body.con {s0 : D.Cur} {g1_ : Nat} {A0_0 : Option Addr} {c0_0 : Nat} {xs1 : List D.Ins} {A1 : Option Addr} {c1 : Nat} {x2 : Int} {r : (List D.Ins) × D.Cur} {w : World} (hp : M.spec_l05Body_pre s0 xs1 x2) (hr : r = M.spec_l05Body s0 xs1 x2) (O1 : Blk w g1_ 77 #[(.slice A0_0 s0.b.length c0_0), (.int .i64 s0.i), (.int .i64 s0.h)]) (R0_0 : Row el5 w A0_0 s0.b) (hc0_0 : s0.b.length ≤ c0_0) (O3 : Own el60 w 0 A1 c1 xs1) (D0_0 : s0.b ≠ [] → ∀ g, InB A0_0 g → ¬ (fun k_ => k_ = g1_ ∨ InB A1 k_) g) :
    Cll Try.prog 52 #[(.pointer (some (⟨g1_, 0, none⟩ : Addr))), (.slice A1 xs1.length c1), (.int .i64 x2)] w (fun v_ w_ => ∃ (A0_ : Option Addr) (c0_ : Nat), v_ = (.slice A0_ r.1.length c0_) ∧ Own el60 w_ 0 A0_ c0_ r.1 ∧ Mov w A1 A0_ ∧ Blk w_ g1_ 77 #[(.slice A0_0 r.2.b.length c0_0), (.int .i64 r.2.i), (.int .i64 r.2.h)] ∧ r.2.b = s0.b ∧ Chg (fun k_ => k_ = g1_ ∨ InB A1 k_) w w_) := spec_l05Body.con_ _ hp hr O1 R0_0 hc0_0 O3 D0_0 rfl
def spec_l04Memory.vc (p0 : Addr) (w : World) (K : Value → World → Prop) : Prop :=
  newK w (.cells #[(.int .i64 0), (.int .i64 0), (.int .i64 0), (.int .i64 0)] 60) fun g21 w22 => Run Try.prog (Instr.buildSlice 26 3 #[(0, (.int .i64 13)), (1, (.int .i64 14)), (2, (.int .i64 15))]) w22 fun v23 w24 => ∃ (A25 : Option Addr) (n26 c27 : Nat), v23 = .slice A25 n26 c27 ∧ Cll Try.prog 63 #[(.pointer (some p0)), (.slice A25 n26 c27)] w24 fun v28 w29 => (∃ (n30 : Int), v28 = (.int .i64 n30) ∧ Cll Try.prog 24 #[(.pointer (some p0)), (.int .i64 4)] w29 fun v31 w32 => (∃ (n33 : Int), v31 = (.int .i64 n33) ∧ Cll Try.prog 24 #[(.pointer (some p0)), (.int .i64 4)] w32 fun v34 w35 => (∃ (n36 : Int), v34 = (.int .i64 n36) ∧ stCells (⟨g21, 0, none⟩ : Addr) [(.int .i64 n30), (.int .i64 n33), (.int .i64 n36), (.int .i64 0)] 0 w35 fun w37 => ∃ (n38 : Int), w37.cell? ((⟨g21, 0, none⟩ : Addr).add 0) = some (.int .i64 n38) ∧ ∃ (n39 : Int), w37.cell? ((⟨g21, 0, none⟩ : Addr).add 1) = some (.int .i64 n39) ∧ ∃ (n40 : Int), w37.cell? ((⟨g21, 0, none⟩ : Addr).add 2) = some (.int .i64 n40) ∧ ∃ (n41 : Int), w37.cell? ((⟨g21, 0, none⟩ : Addr).add 3) = some (.int .i64 n41) ∧ K (.agg #[(.int .i64 n38), (.int .i64 n39), (.int .i64 n40), (.int .i64 n41)]) w37)))

def spec_l04Memory.ann : Ann := (.seq .l (.seq .l .l))

theorem spec_l04Memory.start {p0 : Addr} {w : World} {K : Value → World → Prop} (h : spec_l04Memory.vc p0 w K) : Cll Try.prog 64 #[(.pointer (some p0))] w K :=
  vcF_sound mixed (fn := Try.f64) (by kernel_rfl) (by kernel_rfl) (an := spec_l04Memory.ann) (args := [(.pointer (some p0))]) (Eq.mpr (by kernel_rfl) h)

theorem spec_l04Memory.con {s0 : D.Cur} {g1_ : Nat} {A0_0 : Option Addr} {c0_0 : Nat} {r : D.Ins × D.Cur} {w : World} (hp : M.spec_l04Memory_pre s0) (hr : r = M.spec_l04Memory s0) (O1 : Blk w g1_ 77 #[(.slice A0_0 s0.b.length c0_0), (.int .i64 s0.i), (.int .i64 s0.h)]) (R0_0 : Row el5 w A0_0 s0.b) (hc0_0 : s0.b.length ≤ c0_0) (D0_0 : s0.b ≠ [] → ∀ g, InB A0_0 g → ¬ (fun k_ => k_ = g1_) g) :
    Cll Try.prog 64 #[(.pointer (some (⟨g1_, 0, none⟩ : Addr)))] w (fun v_ w_ => v_ = (.agg #[(.int .i64 r.1.Op), (.int .i64 r.1.A), (.int .i64 r.1.B), (.int .i64 r.1.C)]) ∧ Blk w_ g1_ 77 #[(.slice A0_0 r.2.b.length c0_0), (.int .i64 r.2.i), (.int .i64 r.2.h)] ∧ r.2.b = s0.b ∧ Chg (fun k_ => k_ = g1_) w w_) := by
  have H := wp.spec_l04Memory.math s0 hp
  have hB := Chg.refl (fun k_ => k_ = g1_) w
  refine spec_l04Memory.start ?_
  unfold spec_l04Memory.vc
  unfold wp.spec_l04Memory at H
  refine newBlk (fun g3_ w21 L3 P3 e22 => ?_)
  have N1_3 := O1.ne L3
  have O1 := O1.ext e22
  have O3 := P3
  have L3 := Nat.le_trans hB.size L3
  have hB := hB.then e22
  refine buildOwn el3 ([13, 14, 15] : List Int) (fun _ => by kernel_rfl) rfl (fun A23 w24 P4 e25 => ?_)
  have N4_1 := P4.apart_old O1.lt
  have N4_3 := P4.apart_old O3.lt
  have O1 := O1.ext e25
  have O3 := O3.ext e25
  have O4 := P4.mono hB.size
  have hB := hB.then e25
  obtain ⟨hp28, H⟩ := H
  obtain ⟨r26, hr27⟩ : ∃ r_, r_ = M.spec_l01PickInt s0 ([13, 14, 15] : List Int) := ⟨_, rfl⟩
  have H := H r26 hr27
  refine (cllArgs (by first | (simp only [List.length_set]; done) | (simp; done)) (spec_l01PickInt.con hp28 hr27 O1 (R0_0.chgS hB D0_0) hc0_0 O4.row O4.le (fun hx_ => (fun g h_ hS_ => D0_0 hx_ g h_ hS_)) (fun _ => (box_inb N4_1)))).mono ?_
  rintro _ w29 ⟨rfl, Q1, hq31, e30⟩
  rw [hq31] at Q1
  have O3 := O3.chgS e30 ((N1_3).symm)
  have O4 := O4.chgS e30 (box_inb N4_1)
  have hB := hB.chg e30 (fun g h_ => Or.inr h_)
  have O1 := Q1
  refine ⟨r26.1, rfl, ?_⟩
  obtain ⟨hp34, H⟩ := H
  obtain ⟨r32, hr33⟩ : ∃ r_, r_ = M.spec_l01Below (⟨s0.b, r26.2.i, r26.2.h⟩ : D.Cur) 4 := ⟨_, rfl⟩
  have H := H r32 hr33
  refine (spec_l01Below.con hp34 hr33 O1 (R0_0.chgS hB D0_0) hc0_0 (fun hx_ => (fun g h_ hS_ => D0_0 hx_ g h_ hS_))).mono ?_
  rintro _ w35 ⟨rfl, Q1, hq37, e36⟩
  rw [hq37] at Q1
  have O3 := O3.chgS e36 ((N1_3).symm)
  have O4 := O4.chgS e36 (box_inb N4_1)
  have hB := hB.chg e36 (fun g h_ => Or.inr h_)
  have O1 := Q1
  refine ⟨r32.1, rfl, ?_⟩
  obtain ⟨hp40, H⟩ := H
  obtain ⟨r38, hr39⟩ : ∃ r_, r_ = M.spec_l01Below (⟨s0.b, r32.2.i, r32.2.h⟩ : D.Cur) 4 := ⟨_, rfl⟩
  have H := H r38 hr39
  refine (spec_l01Below.con hp40 hr39 O1 (R0_0.chgS hB D0_0) hc0_0 (fun hx_ => (fun g h_ hS_ => D0_0 hx_ g h_ hS_))).mono ?_
  rintro _ w41 ⟨rfl, Q1, hq43, e42⟩
  rw [hq43] at Q1
  have O3 := O3.chgS e42 ((N1_3).symm)
  have O4 := O4.chgS e42 (box_inb N4_1)
  have hB := hB.chg e42 (fun g h_ => Or.inr h_)
  have O1 := Q1
  refine ⟨r38.1, rfl, ?_⟩
  refine stBlk O3 (o := 0) (cs' := #[(.int .i64 r26.1), (.int .i64 r32.1), (.int .i64 r38.1), (.int .i64 0)]) rfl rfl (Nat.le_of_ble_eq_true rfl) rfl (fun w44 P3 e45 => ?_)
  have O1_ := O1.chg e45 N1_3
  have O4_ := O4.chg e45 N4_3
  have O1 := O1_
  have O4 := O4_
  have hB := hB.chgb e45 (Or.inl L3)
  have O3 := P3
  refine ⟨_, (O3.at 0 rfl rfl), ?_⟩
  refine ⟨_, (O3.at 1 rfl rfl), ?_⟩
  refine ⟨_, (O3.at 2 rfl rfl), ?_⟩
  refine ⟨_, (O3.at 3 rfl rfl), ?_⟩
  obtain rfl := hr.trans H.symm
  exact ⟨rfl, O1, rfl, hB⟩
def spec_l29Program.vc (p0 : Addr) (w : World) (K : Value → World → Prop) : Prop :=
  Run Try.prog (Instr.buildSlice 24 1 #[(0, (.agg #[(.int .i64 8), (.int .i64 0), (.int .i64 0), (.int .i64 0)]))]) w fun v21 w22 => ∃ (A23 : Option Addr) (n24 c25 : Nat), v21 = .slice A23 n24 c25 ∧ Cll Try.prog 24 #[(.pointer (some p0)), (.int .i64 5)] w22 fun v26 w27 => (∃ (n28 : Int), v26 = (.int .i64 n28) ∧ LoopT (σ := (Option Addr × Nat × Nat) × Int × Unit) (fun z29 w30 next31 => bcase (decide (z29.2.1 > 0)) (bcase (decide ((IntKind.wrap .i64 (((z29.1.2.1 : Nat) : Int) + 4)) ≤ 32)) (Cll Try.prog 24 #[(.pointer (some p0)), (.int .i64 7)] w30 fun v33 w34 => (∃ (n35 : Int), v33 = (.int .i64 n35) ∧ bcase (n35 == 0) (Run Try.prog (Instr.buildSlice 24 1 #[(0, (.agg #[(.int .i64 16), (.int .i64 0), (.int .i64 0), (.int .i64 0)]))]) w34 fun v36 w37 => ∃ (A38 : Option Addr) (n39 c40 : Nat), v36 = .slice A38 n39 c40 ∧ Run Try.prog (Builtin.append_ #[24, 24] 24 #[(.slice z29.1.1 z29.1.2.1 z29.1.2.2), (.slice A38 n39 c40)]) w37 fun v41 w42 => ∃ (A43 : Option Addr) (n44 c45 : Nat), v41 = .slice A43 n44 c45 ∧ next31 ((A43, n44, c45), (IntKind.wrap .i64 (z29.2.1 - 1)), ()) w42) (bcase (n35 == 1) (Cll Try.prog 24 #[(.pointer (some p0)), (.int .i64 4)] w34 fun v46 w47 => (∃ (n48 : Int), v46 = (.int .i64 n48) ∧ Run Try.prog (Instr.buildSlice 24 2 #[(0, (.agg #[(.int .i64 8), (.int .i64 0), (.int .i64 0), (.int .i64 0)])), (1, (.agg #[(.int .i64 14), (.int .i64 0), (.int .i64 n48), (.int .i64 0)]))]) w47 fun v49 w50 => ∃ (A51 : Option Addr) (n52 c53 : Nat), v49 = .slice A51 n52 c53 ∧ Run Try.prog (Builtin.append_ #[24, 24] 24 #[(.slice z29.1.1 z29.1.2.1 z29.1.2.2), (.slice A51 n52 c53)]) w50 fun v54 w55 => ∃ (A56 : Option Addr) (n57 c58 : Nat), v54 = .slice A56 n57 c58 ∧ next31 ((A56, n57, c58), (IntKind.wrap .i64 (z29.2.1 - 1)), ()) w55)) (bcase (n35 == 2) (Run Try.prog (Instr.buildSlice 26 3 #[(0, (.int .i64 1)), (1, (.int .i64 8)), (2, (.int .i64 31))]) w34 fun v59 w60 => ∃ (A61 : Option Addr) (n62 c63 : Nat), v59 = .slice A61 n62 c63 ∧ Cll Try.prog 63 #[(.pointer (some p0)), (.slice A61 n62 c63)] w60 fun v64 w65 => (∃ (n66 : Int), v64 = (.int .i64 n66) ∧ Run Try.prog (Instr.buildSlice 24 4 #[(0, (.agg #[(.int .i64 1), (.int .i64 1), (.int .i64 n66), (.int .i64 0)])), (1, (.agg #[(.int .i64 8), (.int .i64 0), (.int .i64 0), (.int .i64 0)])), (2, (.agg #[(.int .i64 3), (.int .i64 0), (.int .i64 0), (.int .i64 1)])), (3, (.agg #[(.int .i64 13), (.int .i64 2), (.int .i64 0), (.int .i64 0)]))]) w65 fun v67 w68 => ∃ (A69 : Option Addr) (n70 c71 : Nat), v67 = .slice A69 n70 c71 ∧ Run Try.prog (Builtin.append_ #[24, 24] 24 #[(.slice z29.1.1 z29.1.2.1 z29.1.2.2), (.slice A69 n70 c71)]) w68 fun v72 w73 => ∃ (A74 : Option Addr) (n75 c76 : Nat), v72 = .slice A74 n75 c76 ∧ next31 ((A74, n75, c76), (IntKind.wrap .i64 (z29.2.1 - 1)), ()) w73)) (bcase (n35 == 3) (Cll Try.prog 24 #[(.pointer (some p0)), (.int .i64 8)] w34 fun v77 w78 => (∃ (n79 : Int), v77 = (.int .i64 n79) ∧ Cll Try.prog 24 #[(.pointer (some p0)), (.int .i64 4)] w78 fun v80 w81 => (∃ (n82 : Int), v80 = (.int .i64 n82) ∧ Run Try.prog (Instr.buildSlice 24 2 #[(0, (.agg #[(.int .i64 1), (.int .i64 1), (.int .i64 (IntKind.wrap .i64 (24 + n79))), (.int .i64 0)])), (1, (.agg #[(.int .i64 15), (.int .i64 1), (.int .i64 n82), (.int .i64 0)]))]) w81 fun v83 w84 => ∃ (A85 : Option Addr) (n86 c87 : Nat), v83 = .slice A85 n86 c87 ∧ Run Try.prog (Builtin.append_ #[24, 24] 24 #[(.slice z29.1.1 z29.1.2.1 z29.1.2.2), (.slice A85 n86 c87)]) w84 fun v88 w89 => ∃ (A90 : Option Addr) (n91 c92 : Nat), v88 = .slice A90 n91 c92 ∧ next31 ((A90, n91, c92), (IntKind.wrap .i64 (z29.2.1 - 1)), ()) w89))) (bcase (n35 == 4) (bcase (decide (((z29.1.2.1 : Nat) : Int) < 12)) (Cll Try.prog 52 #[(.pointer (some p0)), (.slice z29.1.1 z29.1.2.1 z29.1.2.2), (.int .i64 1)] w34 fun v93 w94 => (∃ (A95 : Option Addr) (n96 : Nat) (c97 : Nat), v93 = (.slice A95 n96 c97) ∧ next31 ((A95, n96, c97), (IntKind.wrap .i64 (z29.2.1 - 1)), ()) w94)) (next31 ((z29.1.1, z29.1.2.1, z29.1.2.2), (IntKind.wrap .i64 (z29.2.1 - 1)), ()) w34)) (bcase (n35 == 5) (Cll Try.prog 64 #[(.pointer (some p0))] w34 fun v98 w99 => (∃ (n100 : Int), True ∧ ∃ (n101 : Int), True ∧ ∃ (n102 : Int), True ∧ ∃ (n103 : Int), True ∧ v98 = (.agg #[(.int .i64 n100), (.int .i64 n101), (.int .i64 n102), (.int .i64 n103)]) ∧ Run Try.prog (Instr.buildSlice 24 1 #[(0, (.agg #[(.int .i64 n100), (.int .i64 n101), (.int .i64 n102), (.int .i64 n103)]))]) w99 fun v104 w105 => ∃ (A106 : Option Addr) (n107 c108 : Nat), v104 = .slice A106 n107 c108 ∧ Run Try.prog (Builtin.append_ #[24, 24] 24 #[(.slice z29.1.1 z29.1.2.1 z29.1.2.2), (.slice A106 n107 c108)]) w105 fun v109 w110 => ∃ (A111 : Option Addr) (n112 c113 : Nat), v109 = .slice A111 n112 c113 ∧ next31 ((A111, n112, c113), (IntKind.wrap .i64 (z29.2.1 - 1)), ()) w110)) (Cll Try.prog 65 #[(.pointer (some p0))] w34 fun v114 w115 => (∃ (n116 : Int), True ∧ ∃ (n117 : Int), True ∧ ∃ (n118 : Int), True ∧ ∃ (n119 : Int), True ∧ v114 = (.agg #[(.int .i64 n116), (.int .i64 n117), (.int .i64 n118), (.int .i64 n119)]) ∧ Run Try.prog (Instr.buildSlice 24 1 #[(0, (.agg #[(.int .i64 n116), (.int .i64 n117), (.int .i64 n118), (.int .i64 n119)]))]) w115 fun v120 w121 => ∃ (A122 : Option Addr) (n123 c124 : Nat), v120 = .slice A122 n123 c124 ∧ Run Try.prog (Builtin.append_ #[24, 24] 24 #[(.slice z29.1.1 z29.1.2.1 z29.1.2.2), (.slice A122 n123 c124)]) w121 fun v125 w126 => ∃ (A127 : Option Addr) (n128 c129 : Nat), v125 = .slice A127 n128 c129 ∧ next31 ((A127, n128, c129), (IntKind.wrap .i64 (z29.2.1 - 1)), ()) w126))))))))) (K (.slice z29.1.1 z29.1.2.1 z29.1.2.2) w30)) (K (.slice z29.1.1 z29.1.2.1 z29.1.2.2) w30)) ((A23, n24, c25), (IntKind.wrap .i64 (1 + n28)), ()) w27)

def spec_l29Program.ann : Ann := (.seq .l (.seq .l (.seq (.seq .l (.one (.loop [(3, .sl), (4, .int .i64)] (.seq (.seq .l (.two .l .l)) (.seq (.one (.seq .l (.one (.seq .l (.two .l (.seq .l (.two .l (.seq .l (.two .l (.seq .l (.two .l (.seq .l (.two (.seq .l (.two .l .l)) (.seq .l (.two .l .l))))))))))))))) .l))))) (.seq .l .l))))

theorem spec_l29Program.start {p0 : Addr} {w : World} {K : Value → World → Prop} (h : spec_l29Program.vc p0 w K) : Cll Try.prog 40 #[(.pointer (some p0))] w K :=
  vcF_sound mixed (fn := Try.f40) (by kernel_rfl) (by kernel_rfl) (an := spec_l29Program.ann) (args := [(.pointer (some p0))]) (Eq.mpr (by kernel_rfl) h)

theorem spec_l29Program.con {s0 : D.Cur} {g1_ : Nat} {A0_0 : Option Addr} {c0_0 : Nat} {r : (List D.Ins) × D.Cur} {w : World} (hp : M.spec_l29Program_pre s0) (hr : r = M.spec_l29Program s0) (O1 : Blk w g1_ 77 #[(.slice A0_0 s0.b.length c0_0), (.int .i64 s0.i), (.int .i64 s0.h)]) (R0_0 : Row el5 w A0_0 s0.b) (hc0_0 : s0.b.length ≤ c0_0) (D0_0 : s0.b ≠ [] → ∀ g, InB A0_0 g → ¬ (fun k_ => k_ = g1_) g) :
    Cll Try.prog 40 #[(.pointer (some (⟨g1_, 0, none⟩ : Addr)))] w (fun v_ w_ => ∃ (A0_ : Option Addr) (c0_ : Nat), v_ = (.slice A0_ r.1.length c0_) ∧ Own el60 w_ w.heap.size A0_ c0_ r.1 ∧ Blk w_ g1_ 77 #[(.slice A0_0 r.2.b.length c0_0), (.int .i64 r.2.i), (.int .i64 r.2.h)] ∧ r.2.b = s0.b ∧ Chg (fun k_ => k_ = g1_) w w_) := by
  have H := wp.spec_l29Program.math s0 hp
  have hB := Chg.refl (fun k_ => k_ = g1_) w
  refine spec_l29Program.start ?_
  unfold spec_l29Program.vc
  unfold wp.spec_l29Program at H
  refine buildOwn el60 ([(⟨8, 0, 0, 0⟩ : D.Ins)] : List D.Ins) (fun _ => by kernel_rfl) rfl (fun A21 w22 P3 e23 => ?_)
  have N3_1 := P3.apart_old O1.lt
  have O1 := O1.ext e23
  have O3 := P3.mono hB.size
  have hB := hB.then e23
  obtain ⟨hp26, H⟩ := H
  obtain ⟨r24, hr25⟩ : ∃ r_, r_ = M.spec_l01Below s0 5 := ⟨_, rfl⟩
  have H := H r24 hr25
  refine (spec_l01Below.con hp26 hr25 O1 (R0_0.chgS hB D0_0) hc0_0 (fun hx_ => (fun g h_ hS_ => D0_0 hx_ g h_ hS_))).mono ?_
  rintro _ w27 ⟨rfl, Q1, hq29, e28⟩
  rw [hq29] at Q1
  have O3 := O3.chgS e28 (box_inb N3_1)
  have hB := hB.chg e28 (fun g h_ => Or.inr h_)
  have O1 := Q1
  refine ⟨r24.1, rfl, ?_⟩
  obtain ⟨J60, ⟨m200, hJ199⟩, hS61⟩ := H
  refine ⟨fun m_ z_ w_ => ∃ (xs53 : List D.Ins) (i56 : Int) (i57 : Int) (i58 : Int) (A54 : Option Addr) (c55 : Nat), z_ = ((A54, xs53.length, c55), i56, ()) ∧ J60 m_ (xs53, i56, i57, i58, ()) ∧ Chg (fun k_ => k_ = g1_) w w_ ∧ Own el60 w_ w.heap.size A54 c55 xs53 ∧ Blk w_ g1_ 77 #[(.slice A0_0 s0.b.length c0_0), (.int .i64 i57), (.int .i64 i58)], ⟨m200, ([(⟨8, 0, 0, 0⟩ : D.Ins)] : List D.Ins), (IntKind.wrap .i64 (1 + r24.1)), r24.2.i, r24.2.h, A21, 1, rfl, hJ199, hB, O3, O1⟩, ?_⟩
  rintro m59 _ w63 ⟨xs53, i56, i57, i58, A54, c55, rfl, hJ201, hB, O6, O1⟩
  have H := hS61 m59 _ hJ201
  clear hS61 hJ201
  try dsimp only at H ⊢
  refine bcase_mk (fun hc197 => ?_) (fun hc197 => ?_)
  · have H := (bcase_iff.1 H).1 hc197
    refine bcase_mk (fun hc196 => ?_) (fun hc196 => ?_)
    · have H := (bcase_iff.1 H).1 hc196
      obtain ⟨hp66, H⟩ := H
      obtain ⟨r64, hr65⟩ : ∃ r_, r_ = M.spec_l01Below (⟨s0.b, i57, i58⟩ : D.Cur) 7 := ⟨_, rfl⟩
      have H := H r64 hr65
      refine (spec_l01Below.con hp66 hr65 O1 (R0_0.chgS hB D0_0) hc0_0 (fun hx_ => (fun g h_ hS_ => D0_0 hx_ g h_ hS_))).mono ?_
      rintro _ w67 ⟨rfl, Q1, hq69, e68⟩
      rw [hq69] at Q1
      have O6 := O6.chgS e68 (box_inb (O6.apart_type O1 (by decide)))
      have hB := hB.chg e68 (fun g h_ => Or.inr h_)
      have O1 := Q1
      refine ⟨r64.1, rfl, ?_⟩
      refine bcase_mk (fun hc195 => ?_) (fun hc195 => ?_)
      · have H := (bcase_iff.1 H).1 hc195
        refine buildOwn el60 ([(⟨16, 0, 0, 0⟩ : D.Ins)] : List D.Ins) (fun _ => by kernel_rfl) rfl (fun A70 w71 P7 e72 => ?_)
        have N7_1 := P7.apart_old O1.lt
        have N6_7 := Own.apart2_new O6 P7 (Nat.le_refl _)
        have O1 := O1.ext e72
        have O6 := O6.ext e72
        have O7 := P7.mono hB.size
        have hB := hB.then e72
        obtain ⟨hl77, H⟩ := H
        refine appOwn slt24 slt24.under O6 O7.row hB.size rfl (by first | rfl | omega | (simp; done) | (simp; omega)) hl77 (fun A73 c74 w75 P6 e76 => ?_)
        have N6_1_ := Apart.app (O6.apart_type O1 (by decide)) e76 O1.lt
        have O1 := O1.app e76 (O6.apart_type O1 (by decide))
        have N7_6_ := Apart2.app (N6_7).symm e76 O7
        have O7 := O7.app e76 (N6_7).symm
        have N6_1 := N6_1_
        have N7_6 := N7_6_
        have hB := hB.app e76 (fun g h_ => Or.inl (O6.low g h_))
        have O6 := P6
        obtain ⟨m78, hm79, hJ80⟩ := H
        exact ⟨m78, hm79, (xs53 ++ ([(⟨16, 0, 0, 0⟩ : D.Ins)] : List D.Ins)), (IntKind.wrap .i64 (i56 - 1)), r64.2.i, r64.2.h, A73, c74, rfl, hJ80, hB, O6, O1⟩
      have H := (bcase_iff.1 H).2 hc195
      refine bcase_mk (fun hc194 => ?_) (fun hc194 => ?_)
      · have H := (bcase_iff.1 H).1 hc194
        obtain ⟨hp83, H⟩ := H
        obtain ⟨r81, hr82⟩ : ∃ r_, r_ = M.spec_l01Below (⟨s0.b, r64.2.i, r64.2.h⟩ : D.Cur) 4 := ⟨_, rfl⟩
        have H := H r81 hr82
        refine (spec_l01Below.con hp83 hr82 O1 (R0_0.chgS hB D0_0) hc0_0 (fun hx_ => (fun g h_ hS_ => D0_0 hx_ g h_ hS_))).mono ?_
        rintro _ w84 ⟨rfl, Q1, hq86, e85⟩
        rw [hq86] at Q1
        have O6 := O6.chgS e85 (box_inb (O6.apart_type O1 (by decide)))
        have hB := hB.chg e85 (fun g h_ => Or.inr h_)
        have O1 := Q1
        refine ⟨r81.1, rfl, ?_⟩
        refine buildOwn el60 ([(⟨8, 0, 0, 0⟩ : D.Ins), (⟨14, 0, r81.1, 0⟩ : D.Ins)] : List D.Ins) (fun _ => by kernel_rfl) rfl (fun A87 w88 P8 e89 => ?_)
        have N8_1 := P8.apart_old O1.lt
        have N6_8 := Own.apart2_new O6 P8 (Nat.le_refl _)
        have O1 := O1.ext e89
        have O6 := O6.ext e89
        have O8 := P8.mono hB.size
        have hB := hB.then e89
        obtain ⟨hl94, H⟩ := H
        refine appOwn slt24 slt24.under O6 O8.row hB.size rfl (by first | rfl | omega | (simp; done) | (simp; omega)) hl94 (fun A90 c91 w92 P6 e93 => ?_)
        have N6_1_ := Apart.app (O6.apart_type O1 (by decide)) e93 O1.lt
        have O1 := O1.app e93 (O6.apart_type O1 (by decide))
        have N8_6_ := Apart2.app (N6_8).symm e93 O8
        have O8 := O8.app e93 (N6_8).symm
        have N6_1 := N6_1_
        have N8_6 := N8_6_
        have hB := hB.app e93 (fun g h_ => Or.inl (O6.low g h_))
        have O6 := P6
        obtain ⟨m95, hm96, hJ97⟩ := H
        exact ⟨m95, hm96, (xs53 ++ ([(⟨8, 0, 0, 0⟩ : D.Ins), (⟨14, 0, r81.1, 0⟩ : D.Ins)] : List D.Ins)), (IntKind.wrap .i64 (i56 - 1)), r81.2.i, r81.2.h, A90, c91, rfl, hJ97, hB, O6, O1⟩
      have H := (bcase_iff.1 H).2 hc194
      refine bcase_mk (fun hc193 => ?_) (fun hc193 => ?_)
      · have H := (bcase_iff.1 H).1 hc193
        refine buildOwn el3 ([1, 8, 31] : List Int) (fun _ => by kernel_rfl) rfl (fun A98 w99 P9 e100 => ?_)
        have N9_1 := P9.apart_old O1.lt
        have N6_9 := Own.apart2_new O6 P9 (Nat.le_refl _)
        have O1 := O1.ext e100
        have O6 := O6.ext e100
        have O9 := P9.mono hB.size
        have hB := hB.then e100
        obtain ⟨hp103, H⟩ := H
        obtain ⟨r101, hr102⟩ : ∃ r_, r_ = M.spec_l01PickInt (⟨s0.b, r64.2.i, r64.2.h⟩ : D.Cur) ([1, 8, 31] : List Int) := ⟨_, rfl⟩
        have H := H r101 hr102
        refine (cllArgs (by first | (simp only [List.length_set]; done) | (simp; done)) (spec_l01PickInt.con hp103 hr102 O1 (R0_0.chgS hB D0_0) hc0_0 O9.row O9.le (fun hx_ => (fun g h_ hS_ => D0_0 hx_ g h_ hS_)) (fun _ => (box_inb N9_1)))).mono ?_
        rintro _ w104 ⟨rfl, Q1, hq106, e105⟩
        rw [hq106] at Q1
        have O6 := O6.chgS e105 (box_inb (O6.apart_type O1 (by decide)))
        have O9 := O9.chgS e105 (box_inb N9_1)
        have hB := hB.chg e105 (fun g h_ => Or.inr h_)
        have O1 := Q1
        refine ⟨r101.1, rfl, ?_⟩
        refine buildOwn el60 ([(⟨1, 1, r101.1, 0⟩ : D.Ins), (⟨8, 0, 0, 0⟩ : D.Ins), (⟨3, 0, 0, 1⟩ : D.Ins), (⟨13, 2, 0, 0⟩ : D.Ins)] : List D.Ins) (fun _ => by kernel_rfl) rfl (fun A107 w108 P10 e109 => ?_)
        have N10_1 := P10.apart_old O1.lt
        have N6_10 := Own.apart2_new O6 P10 (Nat.le_refl _)
        have N9_10 := Own.apart2_new O9 P10 (Nat.le_refl _)
        have O1 := O1.ext e109
        have O6 := O6.ext e109
        have O9 := O9.ext e109
        have O10 := P10.mono hB.size
        have hB := hB.then e109
        obtain ⟨hl114, H⟩ := H
        refine appOwn slt24 slt24.under O6 O10.row hB.size rfl (by first | rfl | omega | (simp; done) | (simp; omega)) hl114 (fun A110 c111 w112 P6 e113 => ?_)
        have N6_1_ := Apart.app (O6.apart_type O1 (by decide)) e113 O1.lt
        have O1 := O1.app e113 (O6.apart_type O1 (by decide))
        have N9_6_ := Apart2.app (N6_9).symm e113 O9
        have O9 := O9.app e113 (N6_9).symm
        have N10_6_ := Apart2.app (N6_10).symm e113 O10
        have O10 := O10.app e113 (N6_10).symm
        have N6_1 := N6_1_
        have N9_6 := N9_6_
        have N10_6 := N10_6_
        have hB := hB.app e113 (fun g h_ => Or.inl (O6.low g h_))
        have O6 := P6
        obtain ⟨m115, hm116, hJ117⟩ := H
        exact ⟨m115, hm116, (xs53 ++ ([(⟨1, 1, r101.1, 0⟩ : D.Ins), (⟨8, 0, 0, 0⟩ : D.Ins), (⟨3, 0, 0, 1⟩ : D.Ins), (⟨13, 2, 0, 0⟩ : D.Ins)] : List D.Ins)), (IntKind.wrap .i64 (i56 - 1)), r101.2.i, r101.2.h, A110, c111, rfl, hJ117, hB, O6, O1⟩
      have H := (bcase_iff.1 H).2 hc193
      refine bcase_mk (fun hc192 => ?_) (fun hc192 => ?_)
      · have H := (bcase_iff.1 H).1 hc192
        obtain ⟨hp120, H⟩ := H
        obtain ⟨r118, hr119⟩ : ∃ r_, r_ = M.spec_l01Below (⟨s0.b, r64.2.i, r64.2.h⟩ : D.Cur) 8 := ⟨_, rfl⟩
        have H := H r118 hr119
        refine (spec_l01Below.con hp120 hr119 O1 (R0_0.chgS hB D0_0) hc0_0 (fun hx_ => (fun g h_ hS_ => D0_0 hx_ g h_ hS_))).mono ?_
        rintro _ w121 ⟨rfl, Q1, hq123, e122⟩
        rw [hq123] at Q1
        have O6 := O6.chgS e122 (box_inb (O6.apart_type O1 (by decide)))
        have hB := hB.chg e122 (fun g h_ => Or.inr h_)
        have O1 := Q1
        refine ⟨r118.1, rfl, ?_⟩
        obtain ⟨hp126, H⟩ := H
        obtain ⟨r124, hr125⟩ : ∃ r_, r_ = M.spec_l01Below (⟨s0.b, r118.2.i, r118.2.h⟩ : D.Cur) 4 := ⟨_, rfl⟩
        have H := H r124 hr125
        refine (spec_l01Below.con hp126 hr125 O1 (R0_0.chgS hB D0_0) hc0_0 (fun hx_ => (fun g h_ hS_ => D0_0 hx_ g h_ hS_))).mono ?_
        rintro _ w127 ⟨rfl, Q1, hq129, e128⟩
        rw [hq129] at Q1
        have O6 := O6.chgS e128 (box_inb (O6.apart_type O1 (by decide)))
        have hB := hB.chg e128 (fun g h_ => Or.inr h_)
        have O1 := Q1
        refine ⟨r124.1, rfl, ?_⟩
        refine buildOwn el60 ([(⟨1, 1, (IntKind.wrap .i64 (24 + r118.1)), 0⟩ : D.Ins), (⟨15, 1, r124.1, 0⟩ : D.Ins)] : List D.Ins) (fun _ => by kernel_rfl) rfl (fun A130 w131 P11 e132 => ?_)
        have N11_1 := P11.apart_old O1.lt
        have N6_11 := Own.apart2_new O6 P11 (Nat.le_refl _)
        have O1 := O1.ext e132
        have O6 := O6.ext e132
        have O11 := P11.mono hB.size
        have hB := hB.then e132
        obtain ⟨hl137, H⟩ := H
        refine appOwn slt24 slt24.under O6 O11.row hB.size rfl (by first | rfl | omega | (simp; done) | (simp; omega)) hl137 (fun A133 c134 w135 P6 e136 => ?_)
        have N6_1_ := Apart.app (O6.apart_type O1 (by decide)) e136 O1.lt
        have O1 := O1.app e136 (O6.apart_type O1 (by decide))
        have N11_6_ := Apart2.app (N6_11).symm e136 O11
        have O11 := O11.app e136 (N6_11).symm
        have N6_1 := N6_1_
        have N11_6 := N11_6_
        have hB := hB.app e136 (fun g h_ => Or.inl (O6.low g h_))
        have O6 := P6
        obtain ⟨m138, hm139, hJ140⟩ := H
        exact ⟨m138, hm139, (xs53 ++ ([(⟨1, 1, (IntKind.wrap .i64 (24 + r118.1)), 0⟩ : D.Ins), (⟨15, 1, r124.1, 0⟩ : D.Ins)] : List D.Ins)), (IntKind.wrap .i64 (i56 - 1)), r124.2.i, r124.2.h, A133, c134, rfl, hJ140, hB, O6, O1⟩
      have H := (bcase_iff.1 H).2 hc192
      refine bcase_mk (fun hc191 => ?_) (fun hc191 => ?_)
      · have H := (bcase_iff.1 H).1 hc191
        refine bcase_mk (fun hc155 => ?_) (fun hc155 => ?_)
        · have H := (bcase_iff.1 H).1 hc155
          obtain ⟨hp143, H⟩ := H
          obtain ⟨r141, hr142⟩ : ∃ r_, r_ = M.spec_l05Body (⟨s0.b, r64.2.i, r64.2.h⟩ : D.Cur) xs53 1 := ⟨_, rfl⟩
          have H := H r141 hr142
          refine (spec_l05Body.con hp143 hr142 O1 (R0_0.chgS hB D0_0) hc0_0 (O6.mono (Nat.zero_le _)) (fun hx_ => (fun g h_ => (fun hS_ => hS_.elim ((fun g h_ hS_ => D0_0 hx_ g h_ hS_) g h_) ((fun g h_ hS_ => Nat.not_le.2 (R0_0.old hx_ g h_) (O6.low g hS_)) g h_))))).mono ?_
          rintro _ w144 ⟨A146, c147, rfl, P12, Mv12, Q1, hq148, e145⟩
          rw [hq148] at Q1
          have Lw12 := Mv12.low O6.low hB.size
          have hB := hB.chg e145 (fun g => (fun hS_ => hS_.elim ((fun g h_ => Or.inr h_) g) ((fun g h_ => Or.inl (O6.low g h_)) g)))
          have O1 := Q1
          have O12 := P12.lift Lw12
          refine ⟨A146, r141.1.length, c147, rfl, ?_⟩
          obtain ⟨m149, hm150, hJ151⟩ := H
          exact ⟨m149, hm150, r141.1, (IntKind.wrap .i64 (i56 - 1)), r141.2.i, r141.2.h, A146, c147, rfl, hJ151, hB, O12, O1⟩
        have H := (bcase_iff.1 H).2 hc155
        obtain ⟨m152, hm153, hJ154⟩ := H
        exact ⟨m152, hm153, xs53, (IntKind.wrap .i64 (i56 - 1)), r64.2.i, r64.2.h, A54, c55, rfl, hJ154, hB, O6, O1⟩
      have H := (bcase_iff.1 H).2 hc191
      refine bcase_mk (fun hc190 => ?_) (fun hc190 => ?_)
      · have H := (bcase_iff.1 H).1 hc190
        obtain ⟨hp158, H⟩ := H
        obtain ⟨r156, hr157⟩ : ∃ r_, r_ = M.spec_l04Memory (⟨s0.b, r64.2.i, r64.2.h⟩ : D.Cur) := ⟨_, rfl⟩
        have H := H r156 hr157
        refine (spec_l04Memory.con hp158 hr157 O1 (R0_0.chgS hB D0_0) hc0_0 (fun hx_ => (fun g h_ hS_ => D0_0 hx_ g h_ hS_))).mono ?_
        rintro _ w159 ⟨rfl, Q1, hq161, e160⟩
        rw [hq161] at Q1
        have O6 := O6.chgS e160 (box_inb (O6.apart_type O1 (by decide)))
        have hB := hB.chg e160 (fun g h_ => Or.inr h_)
        have O1 := Q1
        refine ⟨r156.1.Op, trivial, ?_⟩
        refine ⟨r156.1.A, trivial, ?_⟩
        refine ⟨r156.1.B, trivial, ?_⟩
        refine ⟨r156.1.C, trivial, ?_⟩
        refine ⟨rfl, ?_⟩
        refine buildOwn el60 ([r156.1] : List D.Ins) (fun _ => by kernel_rfl) rfl (fun A162 w163 P13 e164 => ?_)
        have N13_1 := P13.apart_old O1.lt
        have N6_13 := Own.apart2_new O6 P13 (Nat.le_refl _)
        have O1 := O1.ext e164
        have O6 := O6.ext e164
        have O13 := P13.mono hB.size
        have hB := hB.then e164
        obtain ⟨hl169, H⟩ := H
        refine appOwn slt24 slt24.under O6 O13.row hB.size rfl (by first | rfl | omega | (simp; done) | (simp; omega)) hl169 (fun A165 c166 w167 P6 e168 => ?_)
        have N6_1_ := Apart.app (O6.apart_type O1 (by decide)) e168 O1.lt
        have O1 := O1.app e168 (O6.apart_type O1 (by decide))
        have N13_6_ := Apart2.app (N6_13).symm e168 O13
        have O13 := O13.app e168 (N6_13).symm
        have N6_1 := N6_1_
        have N13_6 := N13_6_
        have hB := hB.app e168 (fun g h_ => Or.inl (O6.low g h_))
        have O6 := P6
        obtain ⟨m170, hm171, hJ172⟩ := H
        exact ⟨m170, hm171, (xs53 ++ ([r156.1] : List D.Ins)), (IntKind.wrap .i64 (i56 - 1)), r156.2.i, r156.2.h, A165, c166, rfl, hJ172, hB, O6, O1⟩
      have H := (bcase_iff.1 H).2 hc190
      obtain ⟨hp175, H⟩ := H
      obtain ⟨r173, hr174⟩ : ∃ r_, r_ = M.spec_l04Plain (⟨s0.b, r64.2.i, r64.2.h⟩ : D.Cur) := ⟨_, rfl⟩
      have H := H r173 hr174
      refine (spec_l04Plain.con hp175 hr174 O1 (R0_0.chgS hB D0_0) hc0_0 (fun hx_ => (fun g h_ hS_ => D0_0 hx_ g h_ hS_))).mono ?_
      rintro _ w176 ⟨rfl, Q1, hq178, e177⟩
      rw [hq178] at Q1
      have O6 := O6.chgS e177 (box_inb (O6.apart_type O1 (by decide)))
      have hB := hB.chg e177 (fun g h_ => Or.inr h_)
      have O1 := Q1
      refine ⟨r173.1.Op, trivial, ?_⟩
      refine ⟨r173.1.A, trivial, ?_⟩
      refine ⟨r173.1.B, trivial, ?_⟩
      refine ⟨r173.1.C, trivial, ?_⟩
      refine ⟨rfl, ?_⟩
      refine buildOwn el60 ([r173.1] : List D.Ins) (fun _ => by kernel_rfl) rfl (fun A179 w180 P14 e181 => ?_)
      have N14_1 := P14.apart_old O1.lt
      have N6_14 := Own.apart2_new O6 P14 (Nat.le_refl _)
      have O1 := O1.ext e181
      have O6 := O6.ext e181
      have O14 := P14.mono hB.size
      have hB := hB.then e181
      obtain ⟨hl186, H⟩ := H
      refine appOwn slt24 slt24.under O6 O14.row hB.size rfl (by first | rfl | omega | (simp; done) | (simp; omega)) hl186 (fun A182 c183 w184 P6 e185 => ?_)
      have N6_1_ := Apart.app (O6.apart_type O1 (by decide)) e185 O1.lt
      have O1 := O1.app e185 (O6.apart_type O1 (by decide))
      have N14_6_ := Apart2.app (N6_14).symm e185 O14
      have O14 := O14.app e185 (N6_14).symm
      have N6_1 := N6_1_
      have N14_6 := N14_6_
      have hB := hB.app e185 (fun g h_ => Or.inl (O6.low g h_))
      have O6 := P6
      obtain ⟨m187, hm188, hJ189⟩ := H
      exact ⟨m187, hm188, (xs53 ++ ([r173.1] : List D.Ins)), (IntKind.wrap .i64 (i56 - 1)), r173.2.i, r173.2.h, A182, c183, rfl, hJ189, hB, O6, O1⟩
    have H := (bcase_iff.1 H).2 hc196
    obtain rfl := hr.trans H.symm
    exact ⟨A54, c55, rfl, O6, O1, rfl, hB⟩
  have H := (bcase_iff.1 H).2 hc197
  obtain rfl := hr.trans H.symm
  exact ⟨A54, c55, rfl, O6, O1, rfl, hB⟩
def spec_DrawProgram.vc (A0 : Option Addr) (n0 : Nat) (c0 : Nat) (w : World) (K : Value → World → Prop) : Prop :=
  Cll Try.prog 23 #[(.slice A0 n0 c0)] w fun v21 w22 => (∃ (p23 : Addr), v21 = (.pointer (some p23)) ∧ Cll Try.prog 40 #[(.pointer (some p23))] w22 fun v24 w25 => (∃ (A26 : Option Addr) (n27 : Nat) (c28 : Nat), v24 = (.slice A26 n27 c28) ∧ K (.slice A26 n27 c28) w25))

def spec_DrawProgram.ann : Ann := (.seq .l (.seq .l .l))

theorem spec_DrawProgram.start {A0 : Option Addr} {n0 : Nat} {c0 : Nat} {w : World} {K : Value → World → Prop} (h : spec_DrawProgram.vc A0 n0 c0 w K) : Cll Try.prog 16 #[(.slice A0 n0 c0)] w K :=
  vcF_sound mixed (fn := Try.f16) (by kernel_rfl) (by kernel_rfl) (an := spec_DrawProgram.ann) (args := [(.slice A0 n0 c0)]) (Eq.mpr (by kernel_rfl) h)

theorem spec_DrawProgram.con {xs0 : List Int} {A0 : Option Addr} {c0 : Nat} {r : List D.Ins} {w : World} (hp : M.spec_DrawProgram_pre xs0) (hr : r = M.spec_DrawProgram xs0) (R0 : Row el5 w A0 xs0) (hc0 : xs0.length ≤ c0) :
    Cll Try.prog 16 #[(.slice A0 xs0.length c0)] w (fun v_ w_ => ∃ (A0_ : Option Addr) (c0_ : Nat), v_ = (.slice A0_ r.length c0_) ∧ Own el60 w_ w.heap.size A0_ c0_ r ∧ Ext w w_) := by
  have H := wp.spec_DrawProgram.math xs0 hp
  have hB := Ext.refl w
  refine spec_DrawProgram.start ?_
  unfold spec_DrawProgram.vc
  unfold wp.spec_DrawProgram at H
  obtain ⟨hp23, H⟩ := H
  obtain ⟨r21, hr22⟩ : ∃ r_, r_ = M.spec_l01New xs0 := ⟨_, rfl⟩
  have H := H r21 hr22
  refine (spec_l01New.con hp23 hr22 (R0.ext hB) hc0).mono ?_
  rintro _ w24 ⟨g2_, rfl, P2, hq26, L2, e25⟩
  rw [hq26] at P2
  have L2 := Nat.le_trans hB.size L2
  have O2 := P2
  have hB := ethen hB e25
  refine ⟨(⟨g2_, 0, none⟩ : Addr), rfl, ?_⟩
  obtain ⟨hp29, H⟩ := H
  obtain ⟨r27, hr28⟩ : ∃ r_, r_ = M.spec_l29Program (⟨xs0, r21.i, r21.h⟩ : D.Cur) := ⟨_, rfl⟩
  have H := H r27 hr28
  refine (spec_l29Program.con hp29 hr28 O2 (R0.ext hB) hc0 (fun hx_ => (fun g h_ hS_ => Nat.not_le.2 (R0.old hx_ g h_) (box_low L2 _ hS_)))).mono ?_
  rintro _ w30 ⟨A32, c33, rfl, P3, Q2, hq34, e31⟩
  rw [hq34] at Q2
  have N3_2 := P3.apart_old O2.lt
  have O3 := P3.mono hB.size
  have hB := Chg.ext hB e31 (box_low L2)
  have O2 := Q2
  refine ⟨A32, r27.1.length, c33, rfl, ?_⟩
  obtain rfl := hr.trans H.symm
  exact ⟨A32, c33, rfl, O3, hB⟩
def laws_FnNewBlocks.vc (A0 : Option Addr) (n0 : Nat) (c0 : Nat) (w : World) (K : Value → World → Prop) : Prop :=
  Cll Try.prog 6 #[(.slice A0 n0 c0)] w fun v21 w22 => (∃ (b23 : Bool), v21 = (.bool b23) ∧ bcase b23 (K (.bool true) w22) (Cll Try.prog 16 #[(.slice A0 n0 c0)] w22 fun v24 w25 => (∃ (A26 : Option Addr) (n27 : Nat) (c28 : Nat), v24 = (.slice A26 n27 c28) ∧ Cll Try.prog 8 #[(.slice A0 n0 c0)] w25 fun v29 w30 => (∃ (A31 : Option Addr) (n32 : Nat) (c33 : Nat), v29 = (.slice A31 n32 c33) ∧ ((0 : Int) ≤ 0 ∧ 0 < ((n32 : Nat) : Int) ∧ ∃ a34 : Addr, A31 = some a34 ∧ ∃ (n35 : Int), w30.cell? ((a34.add (((0 : Int).toNat) * 1)).add 0) = some (.int .i64 n35) ∧ ((3 : Int) ≠ 0 ∧ Cll Try.prog 17 #[(.slice A26 n27 c28), (.int .i64 (IntKind.wrap .i64 (1 + (Int.tmod n35 3))))] w30 fun v36 w37 => (∃ u38 : Value, (∃ (A39 : Option Addr) (n40 : Nat) (c41 : Nat), True ∧ ∃ (A42 : Option Addr) (n43 : Nat) (c44 : Nat), True ∧ ∃ (A45 : Option Addr) (n46 : Nat) (c47 : Nat), True ∧ ∃ (n48 : Int), True ∧ ∃ (n49 : Int), True ∧ u38 = (.agg #[(.slice A39 n40 c41), (.slice A42 n43 c44), (.slice A45 n46 c47), (.int .i64 n48), (.int .i64 n49)]) ∧ ∃ u50 : Value, (∃ (b51 : Bool), u50 = (.bool b51) ∧ v36 = (.tuple #[(.agg #[(.slice A39 n40 c41), (.slice A42 n43 c44), (.slice A45 n46 c47), (.int .i64 n48), (.int .i64 n49)]), (.bool b51)]) ∧ newK w37 (.cells #[(.slice none 0 0), (.slice none 0 0), (.slice none 0 0), (.int .i64 0), (.int .i64 0)] 41) fun g52 w53 => stCells (⟨g52, 0, none⟩ : Addr) [(.slice A39 n40 c41), (.slice A42 n43 c44), (.slice A45 n46 c47), (.int .i64 n48), (.int .i64 n49)] 0 w53 fun w54 => Run Try.prog (Instr.buildSlice 26 0 #[]) w54 fun v55 w56 => ∃ (A57 : Option Addr) (n58 c59 : Nat), v55 = .slice A57 n58 c59 ∧ LoopT (σ := (Option Addr × Nat × Nat) × Int × Unit) (fun z60 w61 next62 => bcase (decide (z60.2.1 < 32)) (((12 : Int) ≠ 0 ∧ ((0 : Int) ≤ (Int.tmod z60.2.1 12) ∧ (Int.tmod z60.2.1 12) < ((n32 : Nat) : Int) ∧ ∃ a63 : Addr, A31 = some a63 ∧ ∃ (n64 : Int), w61.cell? ((a63.add (((Int.tmod z60.2.1 12).toNat) * 1)).add 0) = some (.int .i64 n64) ∧ Run Try.prog (Instr.buildSlice 26 1 #[(0, (.int .i64 n64))]) w61 fun v65 w66 => ∃ (A67 : Option Addr) (n68 c69 : Nat), v65 = .slice A67 n68 c69 ∧ Run Try.prog (Builtin.append_ #[26, 26] 26 #[(.slice z60.1.1 z60.1.2.1 z60.1.2.2), (.slice A67 n68 c69)]) w66 fun v70 w71 => ∃ (A72 : Option Addr) (n73 c74 : Nat), v70 = .slice A72 n73 c74 ∧ next62 ((A72, n73, c74), (IntKind.wrap .i64 (z60.2.1 + 1)), ()) w71))) (∃ (A75 : Option Addr) (n76 : Nat) (c77 : Nat), w61.cell? ((⟨g52, 0, none⟩ : Addr).add 0) = some (.slice A75 n76 c77) ∧ ∃ (A78 : Option Addr) (n79 : Nat) (c80 : Nat), w61.cell? ((⟨g52, 0, none⟩ : Addr).add 1) = some (.slice A78 n79 c80) ∧ ∃ (A81 : Option Addr) (n82 : Nat) (c83 : Nat), w61.cell? ((⟨g52, 0, none⟩ : Addr).add 2) = some (.slice A81 n82 c83) ∧ ∃ (n84 : Int), w61.cell? ((⟨g52, 0, none⟩ : Addr).add 3) = some (.int .i64 n84) ∧ ∃ (n85 : Int), w61.cell? ((⟨g52, 0, none⟩ : Addr).add 4) = some (.int .i64 n85) ∧ Cll Try.prog 18 #[(.agg #[(.slice A75 n76 c77), (.slice A78 n79 c80), (.slice A81 n82 c83), (.int .i64 n84), (.int .i64 n85)]), (.slice z60.1.1 z60.1.2.1 z60.1.2.2)] w61 fun v86 w87 => (∃ u88 : Value, (∃ (A89 : Option Addr) (n90 : Nat) (c91 : Nat), True ∧ ∃ (A92 : Option Addr) (n93 : Nat) (c94 : Nat), True ∧ ∃ (A95 : Option Addr) (n96 : Nat) (c97 : Nat), True ∧ ∃ (n98 : Int), True ∧ ∃ (n99 : Int), True ∧ u88 = (.agg #[(.slice A89 n90 c91), (.slice A92 n93 c94), (.slice A95 n96 c97), (.int .i64 n98), (.int .i64 n99)]) ∧ ∃ u100 : Value, (∃ (b101 : Bool), u100 = (.bool b101) ∧ v86 = (.tuple #[(.agg #[(.slice A89 n90 c91), (.slice A92 n93 c94), (.slice A95 n96 c97), (.int .i64 n98), (.int .i64 n99)]), (.bool b101)]) ∧ newK w87 (.cells #[(.slice none 0 0), (.slice none 0 0), (.slice none 0 0), (.int .i64 0), (.int .i64 0)] 41) fun g102 w103 => stCells (⟨g102, 0, none⟩ : Addr) [(.slice A89 n90 c91), (.slice A92 n93 c94), (.slice A95 n96 c97), (.int .i64 n98), (.int .i64 n99)] 0 w103 fun w104 => (∃ M105 : Nat → Prop, bcase b51 (bcase b101 (∃ (A106 : Option Addr) (n107 : Nat) (c108 : Nat), (¬ M105 ((⟨g52, 0, none⟩ : Addr)).block ∧ w104.cell? ((⟨g52, 0, none⟩ : Addr).add 0) = some (.slice A106 n107 c108)) ∧ ∃ (A109 : Option Addr) (n110 : Nat) (c111 : Nat), (¬ M105 ((⟨g52, 0, none⟩ : Addr)).block ∧ w104.cell? ((⟨g52, 0, none⟩ : Addr).add 1) = some (.slice A109 n110 c111)) ∧ ∃ (A112 : Option Addr) (n113 : Nat) (c114 : Nat), (¬ M105 ((⟨g52, 0, none⟩ : Addr)).block ∧ w104.cell? ((⟨g52, 0, none⟩ : Addr).add 2) = some (.slice A112 n113 c114)) ∧ ∃ (n115 : Int), (¬ M105 ((⟨g52, 0, none⟩ : Addr)).block ∧ w104.cell? ((⟨g52, 0, none⟩ : Addr).add 3) = some (.int .i64 n115)) ∧ ∃ (n116 : Int), (¬ M105 ((⟨g52, 0, none⟩ : Addr)).block ∧ w104.cell? ((⟨g52, 0, none⟩ : Addr).add 4) = some (.int .i64 n116)) ∧ Cll Try.prog 19 #[(.agg #[(.slice A106 n107 c108), (.slice A109 n110 c111), (.slice A112 n113 c114), (.int .i64 n115), (.int .i64 n116)])] w104.drew fun v117 w118 => (∃ (b119 : Bool), v117 = (.bool b119) ∧ SameBut M105 w104 w118 ∧ bcase b119 (∃ (A120 : Option Addr) (n121 : Nat) (c122 : Nat), (¬ M105 ((⟨g102, 0, none⟩ : Addr)).block ∧ w104.cell? ((⟨g102, 0, none⟩ : Addr).add 0) = some (.slice A120 n121 c122)) ∧ ∃ (A123 : Option Addr) (n124 : Nat) (c125 : Nat), (¬ M105 ((⟨g102, 0, none⟩ : Addr)).block ∧ w104.cell? ((⟨g102, 0, none⟩ : Addr).add 1) = some (.slice A123 n124 c125)) ∧ ∃ (A126 : Option Addr) (n127 : Nat) (c128 : Nat), (¬ M105 ((⟨g102, 0, none⟩ : Addr)).block ∧ w104.cell? ((⟨g102, 0, none⟩ : Addr).add 2) = some (.slice A126 n127 c128)) ∧ ∃ (n129 : Int), (¬ M105 ((⟨g102, 0, none⟩ : Addr)).block ∧ w104.cell? ((⟨g102, 0, none⟩ : Addr).add 3) = some (.int .i64 n129)) ∧ ∃ (n130 : Int), (¬ M105 ((⟨g102, 0, none⟩ : Addr)).block ∧ w104.cell? ((⟨g102, 0, none⟩ : Addr).add 4) = some (.int .i64 n130)) ∧ Cll Try.prog 19 #[(.agg #[(.slice A120 n121 c122), (.slice A123 n124 c125), (.slice A126 n127 c128), (.int .i64 n129), (.int .i64 n130)])] w118 fun v131 w132 => (∃ (b133 : Bool), v131 = (.bool b133) ∧ SameBut M105 w104 w132 ∧ bcase b133 (∃ (A134 : Option Addr) (n135 : Nat) (c136 : Nat), (¬ M105 (((⟨g52, 0, none⟩ : Addr).add 1)).block ∧ w104.cell? (((⟨g52, 0, none⟩ : Addr).add 1).add 0) = some (.slice A134 n135 c136)) ∧ ((0 : Int) ≤ 0 ∧ 0 < ((n32 : Nat) : Int) ∧ ∃ a137 : Addr, A31 = some a137 ∧ ∃ (n138 : Int), (¬ M105 ((a137.add (((0 : Int).toNat) * 1))).block ∧ w104.cell? ((a137.add (((0 : Int).toNat) * 1)).add 0) = some (.int .i64 n138)) ∧ ((3 : Int) ≠ 0 ∧ bcase (((n135 : Nat) : Int) == (IntKind.wrap .i64 (1 + (Int.tmod n138 3)))) (∃ (n139 : Int), (¬ M105 (((⟨g52, 0, none⟩ : Addr).add 4)).block ∧ w104.cell? (((⟨g52, 0, none⟩ : Addr).add 4).add 0) = some (.int .i64 n139)) ∧ bcase (n139 == 0) (∃ (A140 : Option Addr) (n141 : Nat) (c142 : Nat), (¬ M105 (((⟨g102, 0, none⟩ : Addr).add 2)).block ∧ w104.cell? (((⟨g102, 0, none⟩ : Addr).add 2).add 0) = some (.slice A140 n141 c142)) ∧ Cll Try.prog 20 #[(.slice A140 n141 c142), (.slice z60.1.1 z60.1.2.1 z60.1.2.2)] w132 fun v143 w144 => (∃ (b145 : Bool), v143 = (.bool b145) ∧ SameBut M105 w104 w144 ∧ bcase b145 (∃ (A146 : Option Addr) (n147 : Nat) (c148 : Nat), (¬ M105 ((⟨g52, 0, none⟩ : Addr)).block ∧ w104.cell? ((⟨g52, 0, none⟩ : Addr).add 0) = some (.slice A146 n147 c148)) ∧ ∃ (A149 : Option Addr) (n150 : Nat) (c151 : Nat), (¬ M105 ((⟨g52, 0, none⟩ : Addr)).block ∧ w104.cell? ((⟨g52, 0, none⟩ : Addr).add 1) = some (.slice A149 n150 c151)) ∧ ∃ (A152 : Option Addr) (n153 : Nat) (c154 : Nat), (¬ M105 ((⟨g52, 0, none⟩ : Addr)).block ∧ w104.cell? ((⟨g52, 0, none⟩ : Addr).add 2) = some (.slice A152 n153 c154)) ∧ ∃ (n155 : Int), (¬ M105 ((⟨g52, 0, none⟩ : Addr)).block ∧ w104.cell? ((⟨g52, 0, none⟩ : Addr).add 3) = some (.int .i64 n155)) ∧ ∃ (n156 : Int), (¬ M105 ((⟨g52, 0, none⟩ : Addr)).block ∧ w104.cell? ((⟨g52, 0, none⟩ : Addr).add 4) = some (.int .i64 n156)) ∧ Cll Try.prog 21 #[(.agg #[(.slice A146 n147 c148), (.slice A149 n150 c151), (.slice A152 n153 c154), (.int .i64 n155), (.int .i64 n156)]), (.agg #[(.slice none 0 0), (.slice none 0 0), (.slice none 0 0), (.int .i64 0), (.int .i64 0)])] w144 fun v157 w158 => (∃ (b159 : Bool), v157 = (.bool b159) ∧ SameBut M105 w104 w158 ∧ K (.bool (!b159)) w158)) (K (.bool false) w144))) (K (.bool false) w132)) (K (.bool false) w132)))) (K (.bool false) w132))) (K (.bool false) w118))) (K (.bool false) w104.drew)) (K (.bool false) w104.drew))))))) ((A57, n58, c59), 0, ()) w56)))))))))

def laws_FnNewBlocks.ann : Ann := (.seq .l (.seq (.seq .l (.two (.seq .l .l) .l)) (.seq .l (.seq .l (.seq .l (.seq .l (.seq (.seq .l (.one (.loop [(7, .sl), (8, .int .i64)] (.seq (.seq .l (.two .l .l)) (.seq (.one .l) .l))))) (.seq .l (.seq .l .l)))))))))

theorem laws_FnNewBlocks.start {A0 : Option Addr} {n0 : Nat} {c0 : Nat} {w : World} {K : Value → World → Prop} (h : laws_FnNewBlocks.vc A0 n0 c0 w K) : Cll Try.prog 5 #[(.slice A0 n0 c0)] w K :=
  vcF_sound mixed (fn := Try.f5) (by kernel_rfl) (by kernel_rfl) (an := laws_FnNewBlocks.ann) (args := [(.slice A0 n0 c0)]) (Eq.mpr (by kernel_rfl) h)

theorem laws_FnNewBlocks.con {xs0 : List Int} {A0 : Option Addr} {c0 : Nat} {r : Bool} {w : World} (hp : M.laws_FnNewBlocks_pre xs0) (hr : r = M.laws_FnNewBlocks xs0) (R0 : Row el5 w A0 xs0) (hc0 : xs0.length ≤ c0) :
    Cll Try.prog 5 #[(.slice A0 xs0.length c0)] w (fun v_ w_ => v_ = (.bool r) ∧ Ext w w_) := by
  have H := wp.laws_FnNewBlocks.math xs0 hp
  have hB := Ext.refl w
  refine laws_FnNewBlocks.start ?_
  unfold laws_FnNewBlocks.vc
  unfold wp.laws_FnNewBlocks at H
  obtain ⟨r21, hr22⟩ : ∃ r_, r_ = M.laws_big xs0 := ⟨_, rfl⟩
  have H := H r21 hr22
  refine (laws_big.con hr22 (R0.ext hB) hc0).mono ?_
  rintro _ w24 ⟨rfl, e25⟩
  have hB := ethen hB e25
  refine ⟨r21, rfl, ?_⟩
  refine bcase_mk (fun hc151 => ?_) (fun hc151 => ?_)
  · have H := (bcase_iff.1 H).1 hc151
    obtain rfl := hr.trans H.symm
    exact ⟨rfl, hB⟩
  have H := (bcase_iff.1 H).2 hc151
  obtain ⟨hp28, H⟩ := H
  obtain ⟨r26, hr27⟩ : ∃ r_, r_ = M.spec_DrawProgram xs0 := ⟨_, rfl⟩
  have H := H r26 hr27
  refine (spec_DrawProgram.con hp28 hr27 (R0.ext hB) hc0).mono ?_
  rintro _ w29 ⟨A31, c32, rfl, P2, e30⟩
  have O2 := P2.mono hB.size
  have hB := ethen hB e30
  refine ⟨A31, r26.length, c32, rfl, ?_⟩
  obtain ⟨hp35, H⟩ := H
  obtain ⟨r33, hr34⟩ : ∃ r_, r_ = M.spec_DrawPlaces xs0 := ⟨_, rfl⟩
  have H := H r33 hr34
  refine (spec_DrawPlaces.con hp35 hr34 (R0.ext hB) hc0).mono ?_
  rintro _ w36 ⟨A38, c39, rfl, P3, e37⟩
  have N2_3 := Own.apart2_new O2 P3 (Nat.le_refl _)
  have O2 := O2.ext e37
  have O3 := P3.mono hB.size
  have hB := ethen hB e37
  refine ⟨A38, r33.length, c39, rfl, ?_⟩
  obtain ⟨⟨h0_43, h1_44⟩, H⟩ := H
  obtain ⟨a41, ha42, hat40⟩ := Row.at O3.row h0_43 h1_44
  refine ⟨h0_43, h1_44, a41, ha42, ?_⟩
  refine ⟨_, (hat40 0 _ rfl), ?_⟩
  refine ⟨by decide, ?_⟩
  obtain ⟨hp48, H⟩ := H
  obtain ⟨r46, hr47⟩ : ∃ r_, r_ = M.impl_BlockNew r26 (IntKind.wrap .i64 (1 + (Int.tmod (rd r33 0) 3))) := ⟨_, rfl⟩
  have H := H r46 hr47
  refine (impl_BlockNew.con hp48 hr47 O2.row O2.le).mono ?_
  rintro _ w49 ⟨A51, c52, A53, c54, F57, A55, c56, rfl, P4, P5, P6, N5_6, e50⟩
  have N2_4 := Own.apart2_new O2 P4 (Nat.le_refl _)
  have N3_4 := Own.apart2_new O3 P4 (Nat.le_refl _)
  have N5_2 := P5.new_dis O2 (Nat.le_refl _)
  have N5_3 := P5.new_dis O3 (Nat.le_refl _)
  have N2_6 := Own.apart2_new O2 P6 (Nat.le_refl _)
  have N3_6 := Own.apart2_new O3 P6 (Nat.le_refl _)
  have O2 := O2.ext e50
  have O3 := O3.ext e50
  have O4 := P4.mono hB.size
  have O5 := P5.mono hB.size
  have O6 := P6.mono hB.size
  have hB := ethen hB e50
  refine ⟨(.agg #[(.slice A51 r46.1.Code.length c52), (.slice A53 r46.1.Warps.length c54), (.slice A55 r46.1.Memory.length c56), (.int .i64 r46.1.Waiting), (.int .i64 r46.1.Phase)]), ?_⟩
  refine ⟨A51, r46.1.Code.length, c52, trivial, ?_⟩
  refine ⟨A53, r46.1.Warps.length, c54, trivial, ?_⟩
  refine ⟨A55, r46.1.Memory.length, c56, trivial, ?_⟩
  refine ⟨r46.1.Waiting, trivial, ?_⟩
  refine ⟨r46.1.Phase, trivial, ?_⟩
  refine ⟨rfl, ?_⟩
  refine ⟨(.bool r46.2), ?_⟩
  refine ⟨r46.2, rfl, ?_⟩
  refine ⟨rfl, ?_⟩
  refine newBlk (fun g7_ w58 L7 P7 e59 => ?_)
  have N2_7 := O2.apart_new L7
  have N3_7 := O3.apart_new L7
  have N4_7 := O4.apart_new L7
  have N5_7 := O5.dis_newbox L7
  have N6_7 := O6.apart_new L7
  have O2 := O2.ext e59
  have O3 := O3.ext e59
  have O4 := O4.ext e59
  have O5 := O5.ext e59
  have O6 := O6.ext e59
  have O7 := P7
  have L7 := Nat.le_trans hB.size L7
  have hB := ethen hB e59
  refine stBlk O7 (o := 0) (cs' := #[(.slice A51 r46.1.Code.length c52), (.slice A53 r46.1.Warps.length c54), (.slice A55 r46.1.Memory.length c56), (.int .i64 r46.1.Waiting), (.int .i64 r46.1.Phase)]) rfl rfl (Nat.le_of_ble_eq_true rfl) rfl (fun w60 P7 e61 => ?_)
  have O2_ := O2.chg e61 N2_7
  have O3_ := O3.chg e61 N3_7
  have O4_ := O4.chg e61 N4_7
  have O5_ := O5.chg e61 N5_7
  have O6_ := O6.chg e61 N6_7
  have O2 := O2_
  have O3 := O3_
  have O4 := O4_
  have O5 := O5_
  have O6 := O6_
  have hB := echg hB e61 L7
  have O7 := P7
  refine buildOwn el3 ([] : List Int) (fun _ => by kernel_rfl) rfl (fun A62 w63 P8 e64 => ?_)
  have N3_8 := Own.apart2_new O3 P8 (Nat.le_refl _)
  have N4_8 := Own.apart2_new O4 P8 (Nat.le_refl _)
  have N5_8 := O5.dis_new P8 (Nat.le_refl _)
  have N6_8 := Own.apart2_new O6 P8 (Nat.le_refl _)
  have N8_7 := P8.apart_old O7.lt
  have O3 := O3.ext e64
  have O4 := O4.ext e64
  have O5 := O5.ext e64
  have O6 := O6.ext e64
  have O7 := O7.ext e64
  have O8 := P8.mono hB.size
  have hB := ethen hB e64
  obtain ⟨J70, ⟨m149, hJ148⟩, hS71⟩ := H
  refine ⟨fun m_ z_ w_ => ∃ (xs65 : List Int) (i68 : Int) (A66 : Option Addr) (c67 : Nat), z_ = ((A66, xs65.length, c67), i68, ()) ∧ J70 m_ (xs65, i68, ()) ∧ Ext w w_ ∧ Own el3 w_ w.heap.size A66 c67 xs65 ∧ Own el3 w_ w.heap.size A38 c39 r33 ∧ Own el60 w_ w.heap.size A51 c52 r46.1.Code ∧ OwnW 30 el81 el3 w_ w.heap.size F57 A53 c54 r46.1.Warps ∧ Own el3 w_ w.heap.size A55 c56 r46.1.Memory ∧ Blk w_ g7_ 41 #[(.slice A51 r46.1.Code.length c52), (.slice A53 r46.1.Warps.length c54), (.slice A55 r46.1.Memory.length c56), (.int .i64 r46.1.Waiting), (.int .i64 r46.1.Phase)] ∧ Apart2 A38 A66 ∧ Dis (InW A53 F57) (InB A66) ∧ Apart2 A55 A66, ⟨m149, ([] : List Int), 0, A62, 0, rfl, hJ148, hB, O8, O3, O4, O5, O6, O7, N3_8, N5_8, N6_8⟩, ?_⟩
  rintro m69 _ w73 ⟨xs65, i68, A66, c67, rfl, hJ150, hB, O9, O3, O4, O5, O6, O7, N3_9, N5_9, N6_9⟩
  have H := hS71 m69 _ hJ150
  clear hS71 hJ150
  try dsimp only at H ⊢
  refine bcase_mk (fun hc146 => ?_) (fun hc146 => ?_)
  · have H := (bcase_iff.1 H).1 hc146
    refine ⟨by decide, ?_⟩
    obtain ⟨⟨h0_78, h1_79⟩, H⟩ := H
    obtain ⟨a76, ha77, hat75⟩ := Row.at O3.row h0_78 h1_79
    refine ⟨h0_78, h1_79, a76, ha77, ?_⟩
    refine ⟨_, (hat75 0 _ rfl), ?_⟩
    refine buildOwn el3 ([(rd r33 (Int.tmod i68 12))] : List Int) (fun _ => by kernel_rfl) rfl (fun A80 w81 P10 e82 => ?_)
    have N3_10 := Own.apart2_new O3 P10 (Nat.le_refl _)
    have N4_10 := Own.apart2_new O4 P10 (Nat.le_refl _)
    have N5_10 := O5.dis_new P10 (Nat.le_refl _)
    have N6_10 := Own.apart2_new O6 P10 (Nat.le_refl _)
    have N10_7 := P10.apart_old O7.lt
    have N9_10 := Own.apart2_new O9 P10 (Nat.le_refl _)
    have O3 := O3.ext e82
    have O4 := O4.ext e82
    have O5 := O5.ext e82
    have O6 := O6.ext e82
    have O7 := O7.ext e82
    have O9 := O9.ext e82
    have O10 := P10.mono hB.size
    have hB := ethen hB e82
    obtain ⟨hl87, H⟩ := H
    refine appOwn slt26 slt26.under O9 O10.row hB.size rfl (by first | rfl | omega | (simp; done) | (simp; omega)) hl87 (fun A83 c84 w85 P9 e86 => ?_)
    have N3_9_ := Apart2.app N3_9 e86 O3
    have O3 := O3.app e86 N3_9
    have N4_9_ := Apart2.app (Own.apart2_type O4 O9 (by decide)) e86 O4
    have O4 := O4.app e86 (Own.apart2_type O4 O9 (by decide))
    have N5_9_ := OwnW.dis_mv O5 N5_9 e86
    have O5 := O5.app e86 N5_9
    have N6_9_ := Apart2.app N6_9 e86 O6
    have O6 := O6.app e86 N6_9
    have N9_7_ := Apart.app (O9.apart_type O7 (by decide)) e86 O7.lt
    have O7 := O7.app e86 (O9.apart_type O7 (by decide))
    have N10_9_ := Apart2.app (N9_10).symm e86 O10
    have O10 := O10.app e86 (N9_10).symm
    have N3_9 := N3_9_
    have N4_9 := N4_9_
    have N5_9 := N5_9_
    have N6_9 := N6_9_
    have N9_7 := N9_7_
    have N10_9 := N10_9_
    have hB := eapp hB e86 O9
    have O9 := P9
    obtain ⟨m88, hm89, hJ90⟩ := H
    exact ⟨m88, hm89, (xs65 ++ ([(rd r33 (Int.tmod i68 12))] : List Int)), (IntKind.wrap .i64 (i68 + 1)), A83, c84, rfl, hJ90, hB, O9, O3, O4, O5, O6, O7, N3_9, N5_9, N6_9⟩
  have H := (bcase_iff.1 H).2 hc146
  refine ⟨_, _, _, (O7.at 0 rfl rfl), ?_⟩
  refine ⟨_, _, _, (O7.at 1 rfl rfl), ?_⟩
  refine ⟨_, _, _, (O7.at 2 rfl rfl), ?_⟩
  refine ⟨_, (O7.at 3 rfl rfl), ?_⟩
  refine ⟨_, (O7.at 4 rfl rfl), ?_⟩
  obtain ⟨hp93, H⟩ := H
  obtain ⟨r91, hr92⟩ : ∃ r_, r_ = M.impl_WithMemory r46.1 xs65 := ⟨_, rfl⟩
  have H := H r91 hr92
  refine (impl_WithMemory.con hp93 hr92 O4.row O4.le O5.row O5.le O6.row O6.le O9.row O9.le).mono ?_
  rintro _ w94 ⟨A96, c97, A98, c99, F102, A100, c101, rfl, P11, P12, P13, N12_13, e95⟩
  have N3_11 := Own.apart2_new O3 P11 (Nat.le_refl _)
  have N4_11 := Own.apart2_new O4 P11 (Nat.le_refl _)
  have N5_11 := O5.dis_new P11 (Nat.le_refl _)
  have N6_11 := Own.apart2_new O6 P11 (Nat.le_refl _)
  have N11_7 := P11.apart_old O7.lt
  have N9_11 := Own.apart2_new O9 P11 (Nat.le_refl _)
  have N12_3 := P12.new_dis O3 (Nat.le_refl _)
  have N12_4 := P12.new_dis O4 (Nat.le_refl _)
  have N5_12 := O5.dis_neww P12 (Nat.le_refl _)
  have N12_6 := P12.new_dis O6 (Nat.le_refl _)
  have N12_7 := P12.new_disbox O7 (Nat.le_refl _)
  have N12_9 := P12.new_dis O9 (Nat.le_refl _)
  have N3_13 := Own.apart2_new O3 P13 (Nat.le_refl _)
  have N4_13 := Own.apart2_new O4 P13 (Nat.le_refl _)
  have N5_13 := O5.dis_new P13 (Nat.le_refl _)
  have N6_13 := Own.apart2_new O6 P13 (Nat.le_refl _)
  have N13_7 := P13.apart_old O7.lt
  have N9_13 := Own.apart2_new O9 P13 (Nat.le_refl _)
  have O3 := O3.ext e95
  have O4 := O4.ext e95
  have O5 := O5.ext e95
  have O6 := O6.ext e95
  have O7 := O7.ext e95
  have O9 := O9.ext e95
  have O11 := P11.mono hB.size
  have O12 := P12.mono hB.size
  have O13 := P13.mono hB.size
  have hB := ethen hB e95
  refine ⟨(.agg #[(.slice A96 r91.1.Code.length c97), (.slice A98 r91.1.Warps.length c99), (.slice A100 r91.1.Memory.length c101), (.int .i64 r91.1.Waiting), (.int .i64 r91.1.Phase)]), ?_⟩
  refine ⟨A96, r91.1.Code.length, c97, trivial, ?_⟩
  refine ⟨A98, r91.1.Warps.length, c99, trivial, ?_⟩
  refine ⟨A100, r91.1.Memory.length, c101, trivial, ?_⟩
  refine ⟨r91.1.Waiting, trivial, ?_⟩
  refine ⟨r91.1.Phase, trivial, ?_⟩
  refine ⟨rfl, ?_⟩
  refine ⟨(.bool r91.2), ?_⟩
  refine ⟨r91.2, rfl, ?_⟩
  refine ⟨rfl, ?_⟩
  refine newBlk (fun g14_ w103 L14 P14 e104 => ?_)
  have N3_14 := O3.apart_new L14
  have N4_14 := O4.apart_new L14
  have N5_14 := O5.dis_newbox L14
  have N6_14 := O6.apart_new L14
  have N7_14 := O7.ne L14
  have N9_14 := O9.apart_new L14
  have N11_14 := O11.apart_new L14
  have N12_14 := O12.dis_newbox L14
  have N13_14 := O13.apart_new L14
  have O3 := O3.ext e104
  have O4 := O4.ext e104
  have O5 := O5.ext e104
  have O6 := O6.ext e104
  have O7 := O7.ext e104
  have O9 := O9.ext e104
  have O11 := O11.ext e104
  have O12 := O12.ext e104
  have O13 := O13.ext e104
  have O14 := P14
  have L14 := Nat.le_trans hB.size L14
  have hB := ethen hB e104
  refine stBlk O14 (o := 0) (cs' := #[(.slice A96 r91.1.Code.length c97), (.slice A98 r91.1.Warps.length c99), (.slice A100 r91.1.Memory.length c101), (.int .i64 r91.1.Waiting), (.int .i64 r91.1.Phase)]) rfl rfl (Nat.le_of_ble_eq_true rfl) rfl (fun w105 P14 e106 => ?_)
  have O3_ := O3.chg e106 N3_14
  have O4_ := O4.chg e106 N4_14
  have O5_ := O5.chg e106 N5_14
  have O6_ := O6.chg e106 N6_14
  have O7_ := O7.chg e106 N7_14
  have O9_ := O9.chg e106 N9_14
  have O11_ := O11.chg e106 N11_14
  have O12_ := O12.chg e106 N12_14
  have O13_ := O13.chg e106 N13_14
  have O3 := O3_
  have O4 := O4_
  have O5 := O5_
  have O6 := O6_
  have O7 := O7_
  have O9 := O9_
  have O11 := O11_
  have O12 := O12_
  have O13 := O13_
  have hB := echg hB e106 L14
  have O14 := P14
  refine ⟨(fun _ => False), ?_⟩
  have hBz := hB
  have Z3 := O3
  have Z4 := O4
  have Z5 := O5
  have Z6 := O6
  have Z7 := O7
  have Z9 := O9
  have Z11 := O11
  have Z12 := O12
  have Z13 := O13
  have Z14 := O14
  refine bcase_mk (fun hc145 => ?_) (fun hc145 => ?_)
  · have H := (bcase_iff.1 H).1 hc145
    refine bcase_mk (fun hc144 => ?_) (fun hc144 => ?_)
    · have H := (bcase_iff.1 H).1 hc144
      refine ⟨_, _, _, ⟨(fun h_ => h_), (O7.at 0 rfl rfl)⟩, ?_⟩
      refine ⟨_, _, _, ⟨(fun h_ => h_), (O7.at 1 rfl rfl)⟩, ?_⟩
      refine ⟨_, _, _, ⟨(fun h_ => h_), (O7.at 2 rfl rfl)⟩, ?_⟩
      refine ⟨_, ⟨(fun h_ => h_), (O7.at 3 rfl rfl)⟩, ?_⟩
      refine ⟨_, ⟨(fun h_ => h_), (O7.at 4 rfl rfl)⟩, ?_⟩
      have hS107 := Chg.refl (fun _ => False) w105
      have O3 := O3.ext (Ext.drew _)
      have O4 := O4.ext (Ext.drew _)
      have O5 := O5.ext (Ext.drew _)
      have O6 := O6.ext (Ext.drew _)
      have O7 := O7.ext (Ext.drew _)
      have O9 := O9.ext (Ext.drew _)
      have O11 := O11.ext (Ext.drew _)
      have O12 := O12.ext (Ext.drew _)
      have O13 := O13.ext (Ext.drew _)
      have O14 := O14.ext (Ext.drew _)
      have hB := ethen hB (Ext.drew _)
      have hS107 := hS107.then (Ext.drew _)
      obtain ⟨hp115, H⟩ := H
      obtain ⟨r113, hr114⟩ : ∃ r_, r_ = M.impl_BlockOk r46.1 := ⟨_, rfl⟩
      have H := H r113 hr114
      refine (impl_BlockOk.con hp115 hr114 O4.row O4.le O5.row O5.le O6.row O6.le).mono ?_
      rintro _ w116 ⟨rfl, e117⟩
      have O3 := O3.ext e117
      have O4 := O4.ext e117
      have O5 := O5.ext e117
      have O6 := O6.ext e117
      have O7 := O7.ext e117
      have O9 := O9.ext e117
      have O11 := O11.ext e117
      have O12 := O12.ext e117
      have O13 := O13.ext e117
      have O14 := O14.ext e117
      have hB := ethen hB e117
      have hS107 := hS107.then e117
      refine ⟨r113, rfl, ?_⟩
      refine ⟨sameBut_chg hS107, ?_⟩
      refine bcase_mk (fun hc143 => ?_) (fun hc143 => ?_)
      · have H := (bcase_iff.1 H).1 hc143
        refine ⟨_, _, _, ⟨(fun h_ => h_), (Z14.at 0 rfl rfl)⟩, ?_⟩
        refine ⟨_, _, _, ⟨(fun h_ => h_), (Z14.at 1 rfl rfl)⟩, ?_⟩
        refine ⟨_, _, _, ⟨(fun h_ => h_), (Z14.at 2 rfl rfl)⟩, ?_⟩
        refine ⟨_, ⟨(fun h_ => h_), (Z14.at 3 rfl rfl)⟩, ?_⟩
        refine ⟨_, ⟨(fun h_ => h_), (Z14.at 4 rfl rfl)⟩, ?_⟩
        obtain ⟨hp120, H⟩ := H
        obtain ⟨r118, hr119⟩ : ∃ r_, r_ = M.impl_BlockOk r91.1 := ⟨_, rfl⟩
        have H := H r118 hr119
        refine (impl_BlockOk.con hp120 hr119 O11.row O11.le O12.row O12.le O13.row O13.le).mono ?_
        rintro _ w121 ⟨rfl, e122⟩
        have O3 := O3.ext e122
        have O4 := O4.ext e122
        have O5 := O5.ext e122
        have O6 := O6.ext e122
        have O7 := O7.ext e122
        have O9 := O9.ext e122
        have O11 := O11.ext e122
        have O12 := O12.ext e122
        have O13 := O13.ext e122
        have O14 := O14.ext e122
        have hB := ethen hB e122
        have hS107 := hS107.then e122
        refine ⟨r118, rfl, ?_⟩
        refine ⟨sameBut_chg hS107, ?_⟩
        refine bcase_mk (fun hc142 => ?_) (fun hc142 => ?_)
        · have H := (bcase_iff.1 H).1 hc142
          refine ⟨_, _, _, ⟨(fun h_ => h_), (Z7.at 1 rfl rfl)⟩, ?_⟩
          obtain ⟨⟨h0_126, h1_127⟩, H⟩ := H
          obtain ⟨a124, ha125, hat123⟩ := Row.at Z3.row h0_126 h1_127
          refine ⟨h0_126, h1_127, a124, ha125, ?_⟩
          refine ⟨_, ⟨(fun h_ => h_), (hat123 0 _ rfl)⟩, ?_⟩
          refine ⟨by decide, ?_⟩
          refine bcase_mk (fun hc141 => ?_) (fun hc141 => ?_)
          · have H := (bcase_iff.1 H).1 hc141
            refine ⟨_, ⟨(fun h_ => h_), (Z7.at 4 rfl rfl)⟩, ?_⟩
            refine bcase_mk (fun hc140 => ?_) (fun hc140 => ?_)
            · have H := (bcase_iff.1 H).1 hc140
              refine ⟨_, _, _, ⟨(fun h_ => h_), (Z14.at 2 rfl rfl)⟩, ?_⟩
              obtain ⟨hp131, H⟩ := H
              obtain ⟨r129, hr130⟩ : ∃ r_, r_ = M.laws_sameInts r91.1.Memory xs65 := ⟨_, rfl⟩
              have H := H r129 hr130
              refine (laws_sameInts.con hp131 hr130 O13.row O13.le O9.row O9.le).mono ?_
              rintro _ w132 ⟨rfl, e133⟩
              have O3 := O3.ext e133
              have O4 := O4.ext e133
              have O5 := O5.ext e133
              have O6 := O6.ext e133
              have O7 := O7.ext e133
              have O9 := O9.ext e133
              have O11 := O11.ext e133
              have O12 := O12.ext e133
              have O13 := O13.ext e133
              have O14 := O14.ext e133
              have hB := ethen hB e133
              have hS107 := hS107.then e133
              refine ⟨r129, rfl, ?_⟩
              refine ⟨sameBut_chg hS107, ?_⟩
              refine bcase_mk (fun hc139 => ?_) (fun hc139 => ?_)
              · have H := (bcase_iff.1 H).1 hc139
                refine ⟨_, _, _, ⟨(fun h_ => h_), (Z7.at 0 rfl rfl)⟩, ?_⟩
                refine ⟨_, _, _, ⟨(fun h_ => h_), (Z7.at 1 rfl rfl)⟩, ?_⟩
                refine ⟨_, _, _, ⟨(fun h_ => h_), (Z7.at 2 rfl rfl)⟩, ?_⟩
                refine ⟨_, ⟨(fun h_ => h_), (Z7.at 3 rfl rfl)⟩, ?_⟩
                refine ⟨_, ⟨(fun h_ => h_), (Z7.at 4 rfl rfl)⟩, ?_⟩
                obtain ⟨hp136, H⟩ := H
                obtain ⟨r134, hr135⟩ : ∃ r_, r_ = M.impl_SameBlock r46.1 (⟨([] : List D.Ins), ([] : List D.Warp), ([] : List Int), 0, 0⟩ : D.Block) := ⟨_, rfl⟩
                have H := H r134 hr135
                refine (impl_SameBlock.con hp136 hr135 O4.row O4.le O5.row O5.le O6.row O6.le (Row.nil el60 _ none) (Nat.le_refl _) (RowW.nil _ _ _ _ none) (Nat.le_refl _) (Row.nil el3 _ none) (Nat.le_refl _)).mono ?_
                rintro _ w137 ⟨rfl, e138⟩
                have O3 := O3.ext e138
                have O4 := O4.ext e138
                have O5 := O5.ext e138
                have O6 := O6.ext e138
                have O7 := O7.ext e138
                have O9 := O9.ext e138
                have O11 := O11.ext e138
                have O12 := O12.ext e138
                have O13 := O13.ext e138
                have O14 := O14.ext e138
                have hB := ethen hB e138
                have hS107 := hS107.then e138
                refine ⟨r134, rfl, ?_⟩
                refine ⟨sameBut_chg hS107, ?_⟩
                obtain rfl := hr.trans H.symm
                exact ⟨rfl, hB⟩
              have H := (bcase_iff.1 H).2 hc139
              obtain rfl := hr.trans H.symm
              exact ⟨rfl, hB⟩
            have H := (bcase_iff.1 H).2 hc140
            obtain rfl := hr.trans H.symm
            exact ⟨rfl, hB⟩
          have H := (bcase_iff.1 H).2 hc141
          obtain rfl := hr.trans H.symm
          exact ⟨rfl, hB⟩
        have H := (bcase_iff.1 H).2 hc142
        obtain rfl := hr.trans H.symm
        exact ⟨rfl, hB⟩
      have H := (bcase_iff.1 H).2 hc143
      obtain rfl := hr.trans H.symm
      exact ⟨rfl, hB⟩
    have H := (bcase_iff.1 H).2 hc144
    have O3 := O3.ext (Ext.drew _)
    have O4 := O4.ext (Ext.drew _)
    have O5 := O5.ext (Ext.drew _)
    have O6 := O6.ext (Ext.drew _)
    have O7 := O7.ext (Ext.drew _)
    have O9 := O9.ext (Ext.drew _)
    have O11 := O11.ext (Ext.drew _)
    have O12 := O12.ext (Ext.drew _)
    have O13 := O13.ext (Ext.drew _)
    have O14 := O14.ext (Ext.drew _)
    have hB := ethen hB (Ext.drew _)
    obtain rfl := hr.trans H.symm
    exact ⟨rfl, hB⟩
  have H := (bcase_iff.1 H).2 hc145
  have O3 := O3.ext (Ext.drew _)
  have O4 := O4.ext (Ext.drew _)
  have O5 := O5.ext (Ext.drew _)
  have O6 := O6.ext (Ext.drew _)
  have O7 := O7.ext (Ext.drew _)
  have O9 := O9.ext (Ext.drew _)
  have O11 := O11.ext (Ext.drew _)
  have O12 := O12.ext (Ext.drew _)
  have O13 := O13.ext (Ext.drew _)
  have O14 := O14.ext (Ext.drew _)
  have hB := ethen hB (Ext.drew _)
  obtain rfl := hr.trans H.symm
  exact ⟨rfl, hB⟩
end Go.V
