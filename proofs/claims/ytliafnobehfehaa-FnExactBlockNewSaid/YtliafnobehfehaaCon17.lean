import Derived.Test.YtliafnobehfehaaMath17
import Derived.Test.YtliafnobehfehaaSeat
import Derived.Test.YtliafnobehfehaaCon14
namespace Go.V
open Go.Proofs
set_option linter.unusedVariables false
set_option linter.unusedSimpArgs false
set_option maxRecDepth 100000

def spec_WarpNew.vc (A0 : Option Addr) (n0 : Nat) (c0 : Nat) (x1 : Int) (w : World) (K : Value → World → Prop) : Prop :=
  newK w (.cells #[(.int .i64 0), (.slice none 0 0), (.slice none 0 0)] 96) fun g21 w22 => Cll Try.prog 91 #[(.slice A0 n0 c0)] w22 fun v24 w25 => (∃ (b26 : Bool), v24 = (.bool b26) ∧ bcase (!b26) (stCells (⟨g21, 0, none⟩ : Addr) [(.int .i64 0), (.slice none 0 0), (.slice none 0 0)] 0 w25 fun w27 => ∃ (n28 : Int), w27.cell? ((⟨g21, 0, none⟩ : Addr).add 0) = some (.int .i64 n28) ∧ ∃ (A29 : Option Addr) (n30 : Nat) (c31 : Nat), w27.cell? ((⟨g21, 0, none⟩ : Addr).add 1) = some (.slice A29 n30 c31) ∧ ∃ (A32 : Option Addr) (n33 : Nat) (c34 : Nat), w27.cell? ((⟨g21, 0, none⟩ : Addr).add 2) = some (.slice A32 n33 c34) ∧ K (.tuple #[(.agg #[(.int .i64 n28), (.slice A29 n30 c31), (.slice A32 n33 c34)]), (.bool false)]) w27) (Cll Try.prog 92 #[(.int .i64 x1), (.int .i64 0), (.int .i64 2)] w25 fun v35 w36 => (∃ (b37 : Bool), v35 = (.bool b37) ∧ bcase (!b37) (stCells (⟨g21, 0, none⟩ : Addr) [(.int .i64 0), (.slice none 0 0), (.slice none 0 0)] 0 w36 fun w38 => ∃ (n39 : Int), w38.cell? ((⟨g21, 0, none⟩ : Addr).add 0) = some (.int .i64 n39) ∧ ∃ (A40 : Option Addr) (n41 : Nat) (c42 : Nat), w38.cell? ((⟨g21, 0, none⟩ : Addr).add 1) = some (.slice A40 n41 c42) ∧ ∃ (A43 : Option Addr) (n44 : Nat) (c45 : Nat), w38.cell? ((⟨g21, 0, none⟩ : Addr).add 2) = some (.slice A43 n44 c45) ∧ K (.tuple #[(.agg #[(.int .i64 n39), (.slice A40 n41 c42), (.slice A43 n44 c45)]), (.bool false)]) w38) (vcMake Try.prog 25 32 32 w36 fun g46 w47 => newK w47 (.cells #[(.int .i64 0), (.slice none 0 0), (.slice none 0 0)] 96) fun g48 w49 => stCells (⟨g48, 0, none⟩ : Addr) [(.int .i64 x1), (.slice none 0 0), (.slice (some (⟨g46, 0, none⟩ : Addr)) ((32 : Int).toNat) ((32 : Int).toNat))] 0 w49 fun w50 => bcase (decide (((n0 : Nat) : Int) > 0)) (Run Try.prog (Instr.buildSlice 94 1 #[(0, (.agg #[(.int .i64 0), (.int .i64 ((n0 : Nat) : Int)), (.int .i64 255)]))]) w50 fun v51 w52 => ∃ (A53 : Option Addr) (n54 c55 : Nat), v51 = .slice A53 n54 c55 ∧ stCells ((⟨g48, 0, none⟩ : Addr).add 1) [(.slice A53 n54 c55)] 0 w52 fun w56 => ∃ (n57 : Int), w56.cell? ((⟨g48, 0, none⟩ : Addr).add 0) = some (.int .i64 n57) ∧ ∃ (A58 : Option Addr) (n59 : Nat) (c60 : Nat), w56.cell? ((⟨g48, 0, none⟩ : Addr).add 1) = some (.slice A58 n59 c60) ∧ ∃ (A61 : Option Addr) (n62 : Nat) (c63 : Nat), w56.cell? ((⟨g48, 0, none⟩ : Addr).add 2) = some (.slice A61 n62 c63) ∧ stCells (⟨g21, 0, none⟩ : Addr) [(.int .i64 n57), (.slice A58 n59 c60), (.slice A61 n62 c63)] 0 w56 fun w64 => ∃ (n65 : Int), w64.cell? ((⟨g21, 0, none⟩ : Addr).add 0) = some (.int .i64 n65) ∧ ∃ (A66 : Option Addr) (n67 : Nat) (c68 : Nat), w64.cell? ((⟨g21, 0, none⟩ : Addr).add 1) = some (.slice A66 n67 c68) ∧ ∃ (A69 : Option Addr) (n70 : Nat) (c71 : Nat), w64.cell? ((⟨g21, 0, none⟩ : Addr).add 2) = some (.slice A69 n70 c71) ∧ K (.tuple #[(.agg #[(.int .i64 n65), (.slice A66 n67 c68), (.slice A69 n70 c71)]), (.bool true)]) w64) (∃ (n72 : Int), w50.cell? ((⟨g48, 0, none⟩ : Addr).add 0) = some (.int .i64 n72) ∧ ∃ (A73 : Option Addr) (n74 : Nat) (c75 : Nat), w50.cell? ((⟨g48, 0, none⟩ : Addr).add 1) = some (.slice A73 n74 c75) ∧ ∃ (A76 : Option Addr) (n77 : Nat) (c78 : Nat), w50.cell? ((⟨g48, 0, none⟩ : Addr).add 2) = some (.slice A76 n77 c78) ∧ stCells (⟨g21, 0, none⟩ : Addr) [(.int .i64 n72), (.slice A73 n74 c75), (.slice A76 n77 c78)] 0 w50 fun w79 => ∃ (n80 : Int), w79.cell? ((⟨g21, 0, none⟩ : Addr).add 0) = some (.int .i64 n80) ∧ ∃ (A81 : Option Addr) (n82 : Nat) (c83 : Nat), w79.cell? ((⟨g21, 0, none⟩ : Addr).add 1) = some (.slice A81 n82 c83) ∧ ∃ (A84 : Option Addr) (n85 : Nat) (c86 : Nat), w79.cell? ((⟨g21, 0, none⟩ : Addr).add 2) = some (.slice A84 n85 c86) ∧ K (.tuple #[(.agg #[(.int .i64 n80), (.slice A81 n82 c83), (.slice A84 n85 c86)]), (.bool true)]) w79)))))

def spec_WarpNew.ann : Ann := (.seq .l (.seq (.seq .l (.two (.seq .l .l) .l)) (.seq .l (.seq (.seq .l (.two .l .l)) (.seq .l .l)))))

theorem spec_WarpNew.vc_eq (A0 : Option Addr) (n0 : Nat) (c0 : Nat) (x1 : Int) (w : World) (K : Value → World → Prop) : vcF Try.prog Try.f98 spec_WarpNew.ann [(.slice A0 n0 c0), (.int .i64 x1)] K w = spec_WarpNew.vc A0 n0 c0 x1 w K := by kernel_rfl

theorem spec_WarpNew.start {A0 : Option Addr} {n0 : Nat} {c0 : Nat} {x1 : Int} {w : World} {K : Value → World → Prop} (h : spec_WarpNew.vc A0 n0 c0 x1 w K) : Cll Try.prog 98 #[(.slice A0 n0 c0), (.int .i64 x1)] w K :=
  vcF_sound mixed (fn := Try.f98) (by kernel_rfl) (by kernel_rfl) (an := spec_WarpNew.ann) (args := [(.slice A0 n0 c0), (.int .i64 x1)]) (by rw [spec_WarpNew.vc_eq]; exact h)

theorem spec_WarpNew.con {xs0 : List D.Ins} {A0 : Option Addr} {c0 : Nat} {x1 : Int} {r : D.Warp × Bool} {w : World} (hp : M.spec_WarpNew_pre xs0 x1) (hr : r = M.spec_WarpNew xs0 x1) (R0 : Row el99 w A0 xs0) (hc0 : xs0.length ≤ c0) :
    Cll Try.prog 98 #[(.slice A0 xs0.length c0), (.int .i64 x1)] w (fun v_ w_ => ∃ (A0_ : Option Addr) (c0_ : Nat) (A1_ : Option Addr) (c1_ : Nat), v_ = (.tuple #[(.agg #[(.int .i64 r.1.Number), (.slice A0_ r.1.Frames.length c0_), (.slice A1_ r.1.Regs.length c1_)]), (.bool r.2)]) ∧ Own el134 w_ w.heap.size A0_ c0_ r.1.Frames ∧ Own el3 w_ w.heap.size A1_ c1_ r.1.Regs ∧ Ext w w_) := by
  have H := wp.spec_WarpNew.math xs0 x1 hp
  have hB := Ext.refl w
  refine spec_WarpNew.start ?_
  unfold spec_WarpNew.vc
  unfold wp.spec_WarpNew at H
  refine newBlk (fun g2_ w21 L2 P2 e22 => ?_)
  have O2 := P2
  have L2 := Nat.le_trans hB.size L2
  have hB := ethen hB e22
  obtain ⟨hp25, H⟩ := H
  obtain ⟨r23, hr24⟩ : ∃ r_, r_ = M.spec_ProgramOk xs0 := ⟨_, rfl⟩
  have H := H r23 hr24
  refine (spec_ProgramOk.con hp25 hr24 (R0.ext hB) hc0).mono ?_
  rintro _ w26 ⟨rfl, e27⟩
  have O2 := O2.ext e27
  have hB := ethen hB e27
  refine ⟨r23, rfl, ?_⟩
  refine bcase_mk (fun hc57 => ?_) (fun hc57 => ?_)
  · have H := (bcase_iff.1 H).1 hc57
    refine stBlk O2 (o := 0) (cs' := #[(.int .i64 0), (.slice none 0 0), (.slice none 0 0)]) rfl rfl (Nat.le_of_ble_eq_true rfl) rfl (fun w28 P2 e29 => ?_)
    have hB := echg hB e29 L2
    have O2 := P2
    refine ⟨_, (O2.at 0 rfl rfl), ?_⟩
    refine ⟨_, _, _, (O2.at 1 rfl rfl), ?_⟩
    refine ⟨_, _, _, (O2.at 2 rfl rfl), ?_⟩
    obtain rfl := hr.trans H.symm
    exact ⟨none, 0, none, 0, rfl, Own.nil, Own.nil, hB⟩
  · have H := (bcase_iff.1 H).2 hc57
    obtain ⟨r30, hr31⟩ : ∃ r_, r_ = M.spec_l01In x1 0 2 := ⟨_, rfl⟩
    have H := H r30 hr31
    refine (spec_l01In.con hr31 ).mono ?_
    rintro _ w33 ⟨rfl, e34⟩
    have O2 := O2.ext e34
    have hB := ethen hB e34
    refine ⟨r30, rfl, ?_⟩
    refine bcase_mk (fun hc56 => ?_) (fun hc56 => ?_)
    · have H := (bcase_iff.1 H).1 hc56
      refine stBlk O2 (o := 0) (cs' := #[(.int .i64 0), (.slice none 0 0), (.slice none 0 0)]) rfl rfl (Nat.le_of_ble_eq_true rfl) rfl (fun w35 P2 e36 => ?_)
      have hB := echg hB e36 L2
      have O2 := P2
      refine ⟨_, (O2.at 0 rfl rfl), ?_⟩
      refine ⟨_, _, _, (O2.at 1 rfl rfl), ?_⟩
      refine ⟨_, _, _, (O2.at 2 rfl rfl), ?_⟩
      obtain rfl := hr.trans H.symm
      exact ⟨none, 0, none, 0, rfl, Own.nil, Own.nil, hB⟩
    · have H := (bcase_iff.1 H).2 hc56
      obtain ⟨⟨h0_40, h1_41⟩, H⟩ := H
      refine makeOwn slt25 h0_40 h1_41 (fun g37 w38 P3 e39 => ?_)
      have N3_2 := P3.apart_old O2.lt
      have O2 := O2.ext e39
      have O3 := P3.mono hB.size
      have hB := ethen hB e39
      refine newBlk (fun g4_ w42 L4 P4 e43 => ?_)
      have N2_4 := O2.ne L4
      have N3_4 := O3.apart_new L4
      have O2 := O2.ext e43
      have O3 := O3.ext e43
      have O4 := P4
      have L4 := Nat.le_trans hB.size L4
      have hB := ethen hB e43
      refine stBlk O4 (o := 0) (cs' := #[(.int .i64 x1), (.slice none 0 0), (.slice (some (⟨g37, 0, none⟩ : Addr)) ((32 : Int).toNat) ((32 : Int).toNat))]) rfl rfl (Nat.le_of_ble_eq_true rfl) rfl (fun w44 P4 e45 => ?_)
      have O2_ := O2.chg e45 N2_4
      have O3_ := O3.chg e45 N3_4
      have O2 := O2_
      have O3 := O3_
      have hB := echg hB e45 L4
      have O4 := P4
      refine bcase_mk (fun hc55 => ?_) (fun hc55 => ?_)
      · have H := (bcase_iff.1 H).1 hc55
        refine buildOwn el134 ([(⟨0, ((xs0.length : Nat) : Int), 255⟩ : D.Frame)] : List D.Frame) (fun _ => by kernel_rfl) rfl (fun A46 w47 P5 e48 => ?_)
        have N5_2 := P5.apart_old O2.lt
        have N3_5 := Own.apart2_new O3 P5 (Nat.le_refl _)
        have N5_4 := P5.apart_old O4.lt
        have O2 := O2.ext e48
        have O3 := O3.ext e48
        have O4 := O4.ext e48
        have O5 := P5.mono hB.size
        have hB := ethen hB e48
        refine stBlk O4 (o := 1) (cs' := #[(.int .i64 x1), (.slice A46 1 1), (.slice (some (⟨g37, 0, none⟩ : Addr)) ((32 : Int).toNat) ((32 : Int).toNat))]) rfl rfl (Nat.le_of_ble_eq_true rfl) rfl (fun w49 P4 e50 => ?_)
        have O2_ := O2.chg e50 N2_4
        have O3_ := O3.chg e50 N3_4
        have O5_ := O5.chg e50 N5_4
        have O2 := O2_
        have O3 := O3_
        have O5 := O5_
        have hB := echg hB e50 L4
        have O4 := P4
        refine ⟨_, (O4.at 0 rfl rfl), ?_⟩
        refine ⟨_, _, _, (O4.at 1 rfl rfl), ?_⟩
        refine ⟨_, _, _, (O4.at 2 rfl rfl), ?_⟩
        refine stBlk O2 (o := 0) (cs' := #[(.int .i64 x1), (.slice A46 1 1), (.slice (some (⟨g37, 0, none⟩ : Addr)) ((32 : Int).toNat) ((32 : Int).toNat))]) rfl rfl (Nat.le_of_ble_eq_true rfl) rfl (fun w51 P2 e52 => ?_)
        have O3_ := O3.chg e52 N3_2
        have O4_ := O4.chg e52 (N2_4).symm
        have O5_ := O5.chg e52 N5_2
        have O3 := O3_
        have O4 := O4_
        have O5 := O5_
        have hB := echg hB e52 L2
        have O2 := P2
        refine ⟨_, (O2.at 0 rfl rfl), ?_⟩
        refine ⟨_, _, _, (O2.at 1 rfl rfl), ?_⟩
        refine ⟨_, _, _, (O2.at 2 rfl rfl), ?_⟩
        obtain rfl := hr.trans H.symm
        exact ⟨A46, 1, (some (⟨g37, 0, none⟩ : Addr)), ((32 : Int).toNat), (by first | rfl | (simp; done) | (simp; omega) | (simp [*]; done)), (by first | exact O5 | (simp only [List.length_set]; exact O5)), (by first | exact O3 | (simp only [List.length_set]; exact O3)), hB⟩
      · have H := (bcase_iff.1 H).2 hc55
        refine ⟨_, (O4.at 0 rfl rfl), ?_⟩
        refine ⟨_, _, _, (O4.at 1 rfl rfl), ?_⟩
        refine ⟨_, _, _, (O4.at 2 rfl rfl), ?_⟩
        refine stBlk O2 (o := 0) (cs' := #[(.int .i64 x1), (.slice none 0 0), (.slice (some (⟨g37, 0, none⟩ : Addr)) ((32 : Int).toNat) ((32 : Int).toNat))]) rfl rfl (Nat.le_of_ble_eq_true rfl) rfl (fun w53 P2 e54 => ?_)
        have O3_ := O3.chg e54 N3_2
        have O4_ := O4.chg e54 (N2_4).symm
        have O3 := O3_
        have O4 := O4_
        have hB := echg hB e54 L2
        have O2 := P2
        refine ⟨_, (O2.at 0 rfl rfl), ?_⟩
        refine ⟨_, _, _, (O2.at 1 rfl rfl), ?_⟩
        refine ⟨_, _, _, (O2.at 2 rfl rfl), ?_⟩
        obtain rfl := hr.trans H.symm
        exact ⟨none, 0, (some (⟨g37, 0, none⟩ : Addr)), ((32 : Int).toNat), (by first | rfl | (simp; done) | (simp; omega) | (simp [*]; done)), Own.nil, (by first | exact O3 | (simp only [List.length_set]; exact O3)), hB⟩

def spec_BlockNew.vc (A0 : Option Addr) (n0 : Nat) (c0 : Nat) (x1 : Int) (w : World) (K : Value → World → Prop) : Prop :=
  newK w (.cells #[(.slice none 0 0), (.slice none 0 0), (.slice none 0 0), (.int .i64 0), (.int .i64 0)] 48) fun g21 w22 => Cll Try.prog 91 #[(.slice A0 n0 c0)] w22 fun v24 w25 => (∃ (b26 : Bool), v24 = (.bool b26) ∧ bcase (!b26) (stCells (⟨g21, 0, none⟩ : Addr) [(.slice none 0 0), (.slice none 0 0), (.slice none 0 0), (.int .i64 0), (.int .i64 0)] 0 w25 fun w27 => ∃ (A28 : Option Addr) (n29 : Nat) (c30 : Nat), w27.cell? ((⟨g21, 0, none⟩ : Addr).add 0) = some (.slice A28 n29 c30) ∧ ∃ (A31 : Option Addr) (n32 : Nat) (c33 : Nat), w27.cell? ((⟨g21, 0, none⟩ : Addr).add 1) = some (.slice A31 n32 c33) ∧ ∃ (A34 : Option Addr) (n35 : Nat) (c36 : Nat), w27.cell? ((⟨g21, 0, none⟩ : Addr).add 2) = some (.slice A34 n35 c36) ∧ ∃ (n37 : Int), w27.cell? ((⟨g21, 0, none⟩ : Addr).add 3) = some (.int .i64 n37) ∧ ∃ (n38 : Int), w27.cell? ((⟨g21, 0, none⟩ : Addr).add 4) = some (.int .i64 n38) ∧ K (.tuple #[(.agg #[(.slice A28 n29 c30), (.slice A31 n32 c33), (.slice A34 n35 c36), (.int .i64 n37), (.int .i64 n38)]), (.bool false)]) w27) (Cll Try.prog 92 #[(.int .i64 x1), (.int .i64 1), (.int .i64 3)] w25 fun v39 w40 => (∃ (b41 : Bool), v39 = (.bool b41) ∧ bcase (!b41) (stCells (⟨g21, 0, none⟩ : Addr) [(.slice none 0 0), (.slice none 0 0), (.slice none 0 0), (.int .i64 0), (.int .i64 0)] 0 w40 fun w42 => ∃ (A43 : Option Addr) (n44 : Nat) (c45 : Nat), w42.cell? ((⟨g21, 0, none⟩ : Addr).add 0) = some (.slice A43 n44 c45) ∧ ∃ (A46 : Option Addr) (n47 : Nat) (c48 : Nat), w42.cell? ((⟨g21, 0, none⟩ : Addr).add 1) = some (.slice A46 n47 c48) ∧ ∃ (A49 : Option Addr) (n50 : Nat) (c51 : Nat), w42.cell? ((⟨g21, 0, none⟩ : Addr).add 2) = some (.slice A49 n50 c51) ∧ ∃ (n52 : Int), w42.cell? ((⟨g21, 0, none⟩ : Addr).add 3) = some (.int .i64 n52) ∧ ∃ (n53 : Int), w42.cell? ((⟨g21, 0, none⟩ : Addr).add 4) = some (.int .i64 n53) ∧ K (.tuple #[(.agg #[(.slice A43 n44 c45), (.slice A46 n47 c48), (.slice A49 n50 c51), (.int .i64 n52), (.int .i64 n53)]), (.bool false)]) w42) (JoinT (σ := Addr × Unit) (fun J54 => (∃ M55 : Nat → Prop, ((Run Try.prog (Instr.buildSlice 24 0 #[]) w40.drew fun v56 w57 => ∃ (A58 : Option Addr) (n59 c60 : Nat), v56 = .slice A58 n59 c60 ∧ SameBut M55 w40 w57 ∧ ((Run Try.prog (Builtin.append_ #[24, 24] 24 #[(.slice A58 n59 c60), (.slice A0 n0 c0)]) w57 fun v61 w62 => ∃ (A63 : Option Addr) (n64 c65 : Nat), v61 = .slice A63 n64 c65 ∧ SameBut M55 w40 w62 ∧ ((vcMake Try.prog 25 32 32 w62 fun g66 w67 => SameBut M55 w40 w67 ∧ newK w67 (.cells #[(.slice none 0 0), (.slice none 0 0), (.slice none 0 0), (.int .i64 0), (.int .i64 0)] 48) fun g68 w69 => SameBut M55 w40 w69 ∧ stCells (⟨g68, 0, none⟩ : Addr) [(.slice A63 n64 c65), (.slice none 0 0), (.slice (some (⟨g66, 0, none⟩ : Addr)) ((32 : Int).toNat) ((32 : Int).toNat)), (.int .i64 0), (.int .i64 0)] 0 w69 fun w70 => J54 ((⟨g68, 0, none⟩ : Addr), ()) w70) ∧ (newK w62 (.cells #[(.slice none 0 0), (.slice none 0 0), (.slice none 0 0), (.int .i64 0), (.int .i64 0)] 48) fun g71 w72 => SameBut M55 w40 w72 ∧ vcMake Try.prog 25 32 32 w72 fun g73 w74 => SameBut M55 w40 w74 ∧ stCells (⟨g71, 0, none⟩ : Addr) [(.slice A63 n64 c65), (.slice none 0 0), (.slice (some (⟨g73, 0, none⟩ : Addr)) ((32 : Int).toNat) ((32 : Int).toNat)), (.int .i64 0), (.int .i64 0)] 0 w74 fun w75 => J54 ((⟨g71, 0, none⟩ : Addr), ()) w75) ∧ True)) ∧ (vcMake Try.prog 25 32 32 w57 fun g76 w77 => SameBut M55 w40 w77 ∧ ((Run Try.prog (Builtin.append_ #[24, 24] 24 #[(.slice A58 n59 c60), (.slice A0 n0 c0)]) w77 fun v78 w79 => ∃ (A80 : Option Addr) (n81 c82 : Nat), v78 = .slice A80 n81 c82 ∧ SameBut M55 w40 w79 ∧ newK w79 (.cells #[(.slice none 0 0), (.slice none 0 0), (.slice none 0 0), (.int .i64 0), (.int .i64 0)] 48) fun g83 w84 => SameBut M55 w40 w84 ∧ stCells (⟨g83, 0, none⟩ : Addr) [(.slice A80 n81 c82), (.slice none 0 0), (.slice (some (⟨g76, 0, none⟩ : Addr)) ((32 : Int).toNat) ((32 : Int).toNat)), (.int .i64 0), (.int .i64 0)] 0 w84 fun w85 => J54 ((⟨g83, 0, none⟩ : Addr), ()) w85) ∧ (newK w77 (.cells #[(.slice none 0 0), (.slice none 0 0), (.slice none 0 0), (.int .i64 0), (.int .i64 0)] 48) fun g86 w87 => SameBut M55 w40 w87 ∧ Run Try.prog (Builtin.append_ #[24, 24] 24 #[(.slice A58 n59 c60), (.slice A0 n0 c0)]) w87 fun v88 w89 => ∃ (A90 : Option Addr) (n91 c92 : Nat), v88 = .slice A90 n91 c92 ∧ SameBut M55 w40 w89 ∧ stCells (⟨g86, 0, none⟩ : Addr) [(.slice A90 n91 c92), (.slice none 0 0), (.slice (some (⟨g76, 0, none⟩ : Addr)) ((32 : Int).toNat) ((32 : Int).toNat)), (.int .i64 0), (.int .i64 0)] 0 w89 fun w93 => J54 ((⟨g86, 0, none⟩ : Addr), ()) w93) ∧ True)) ∧ (newK w57 (.cells #[(.slice none 0 0), (.slice none 0 0), (.slice none 0 0), (.int .i64 0), (.int .i64 0)] 48) fun g94 w95 => SameBut M55 w40 w95 ∧ ((Run Try.prog (Builtin.append_ #[24, 24] 24 #[(.slice A58 n59 c60), (.slice A0 n0 c0)]) w95 fun v96 w97 => ∃ (A98 : Option Addr) (n99 c100 : Nat), v96 = .slice A98 n99 c100 ∧ SameBut M55 w40 w97 ∧ vcMake Try.prog 25 32 32 w97 fun g101 w102 => SameBut M55 w40 w102 ∧ stCells (⟨g94, 0, none⟩ : Addr) [(.slice A98 n99 c100), (.slice none 0 0), (.slice (some (⟨g101, 0, none⟩ : Addr)) ((32 : Int).toNat) ((32 : Int).toNat)), (.int .i64 0), (.int .i64 0)] 0 w102 fun w103 => J54 ((⟨g94, 0, none⟩ : Addr), ()) w103) ∧ (vcMake Try.prog 25 32 32 w95 fun g104 w105 => SameBut M55 w40 w105 ∧ Run Try.prog (Builtin.append_ #[24, 24] 24 #[(.slice A58 n59 c60), (.slice A0 n0 c0)]) w105 fun v106 w107 => ∃ (A108 : Option Addr) (n109 c110 : Nat), v106 = .slice A108 n109 c110 ∧ SameBut M55 w40 w107 ∧ stCells (⟨g94, 0, none⟩ : Addr) [(.slice A108 n109 c110), (.slice none 0 0), (.slice (some (⟨g104, 0, none⟩ : Addr)) ((32 : Int).toNat) ((32 : Int).toNat)), (.int .i64 0), (.int .i64 0)] 0 w107 fun w111 => J54 ((⟨g94, 0, none⟩ : Addr), ()) w111) ∧ True)) ∧ True)) ∧ (vcMake Try.prog 25 32 32 w40.drew fun g112 w113 => SameBut M55 w40 w113 ∧ ((Run Try.prog (Instr.buildSlice 24 0 #[]) w113 fun v114 w115 => ∃ (A116 : Option Addr) (n117 c118 : Nat), v114 = .slice A116 n117 c118 ∧ SameBut M55 w40 w115 ∧ ((Run Try.prog (Builtin.append_ #[24, 24] 24 #[(.slice A116 n117 c118), (.slice A0 n0 c0)]) w115 fun v119 w120 => ∃ (A121 : Option Addr) (n122 c123 : Nat), v119 = .slice A121 n122 c123 ∧ SameBut M55 w40 w120 ∧ newK w120 (.cells #[(.slice none 0 0), (.slice none 0 0), (.slice none 0 0), (.int .i64 0), (.int .i64 0)] 48) fun g124 w125 => SameBut M55 w40 w125 ∧ stCells (⟨g124, 0, none⟩ : Addr) [(.slice A121 n122 c123), (.slice none 0 0), (.slice (some (⟨g112, 0, none⟩ : Addr)) ((32 : Int).toNat) ((32 : Int).toNat)), (.int .i64 0), (.int .i64 0)] 0 w125 fun w126 => J54 ((⟨g124, 0, none⟩ : Addr), ()) w126) ∧ (newK w115 (.cells #[(.slice none 0 0), (.slice none 0 0), (.slice none 0 0), (.int .i64 0), (.int .i64 0)] 48) fun g127 w128 => SameBut M55 w40 w128 ∧ Run Try.prog (Builtin.append_ #[24, 24] 24 #[(.slice A116 n117 c118), (.slice A0 n0 c0)]) w128 fun v129 w130 => ∃ (A131 : Option Addr) (n132 c133 : Nat), v129 = .slice A131 n132 c133 ∧ SameBut M55 w40 w130 ∧ stCells (⟨g127, 0, none⟩ : Addr) [(.slice A131 n132 c133), (.slice none 0 0), (.slice (some (⟨g112, 0, none⟩ : Addr)) ((32 : Int).toNat) ((32 : Int).toNat)), (.int .i64 0), (.int .i64 0)] 0 w130 fun w134 => J54 ((⟨g127, 0, none⟩ : Addr), ()) w134) ∧ True)) ∧ (newK w113 (.cells #[(.slice none 0 0), (.slice none 0 0), (.slice none 0 0), (.int .i64 0), (.int .i64 0)] 48) fun g135 w136 => SameBut M55 w40 w136 ∧ Run Try.prog (Instr.buildSlice 24 0 #[]) w136 fun v137 w138 => ∃ (A139 : Option Addr) (n140 c141 : Nat), v137 = .slice A139 n140 c141 ∧ SameBut M55 w40 w138 ∧ Run Try.prog (Builtin.append_ #[24, 24] 24 #[(.slice A139 n140 c141), (.slice A0 n0 c0)]) w138 fun v142 w143 => ∃ (A144 : Option Addr) (n145 c146 : Nat), v142 = .slice A144 n145 c146 ∧ SameBut M55 w40 w143 ∧ stCells (⟨g135, 0, none⟩ : Addr) [(.slice A144 n145 c146), (.slice none 0 0), (.slice (some (⟨g112, 0, none⟩ : Addr)) ((32 : Int).toNat) ((32 : Int).toNat)), (.int .i64 0), (.int .i64 0)] 0 w143 fun w147 => J54 ((⟨g135, 0, none⟩ : Addr), ()) w147) ∧ True)) ∧ (newK w40.drew (.cells #[(.slice none 0 0), (.slice none 0 0), (.slice none 0 0), (.int .i64 0), (.int .i64 0)] 48) fun g148 w149 => SameBut M55 w40 w149 ∧ ((Run Try.prog (Instr.buildSlice 24 0 #[]) w149 fun v150 w151 => ∃ (A152 : Option Addr) (n153 c154 : Nat), v150 = .slice A152 n153 c154 ∧ SameBut M55 w40 w151 ∧ ((Run Try.prog (Builtin.append_ #[24, 24] 24 #[(.slice A152 n153 c154), (.slice A0 n0 c0)]) w151 fun v155 w156 => ∃ (A157 : Option Addr) (n158 c159 : Nat), v155 = .slice A157 n158 c159 ∧ SameBut M55 w40 w156 ∧ vcMake Try.prog 25 32 32 w156 fun g160 w161 => SameBut M55 w40 w161 ∧ stCells (⟨g148, 0, none⟩ : Addr) [(.slice A157 n158 c159), (.slice none 0 0), (.slice (some (⟨g160, 0, none⟩ : Addr)) ((32 : Int).toNat) ((32 : Int).toNat)), (.int .i64 0), (.int .i64 0)] 0 w161 fun w162 => J54 ((⟨g148, 0, none⟩ : Addr), ()) w162) ∧ (vcMake Try.prog 25 32 32 w151 fun g163 w164 => SameBut M55 w40 w164 ∧ Run Try.prog (Builtin.append_ #[24, 24] 24 #[(.slice A152 n153 c154), (.slice A0 n0 c0)]) w164 fun v165 w166 => ∃ (A167 : Option Addr) (n168 c169 : Nat), v165 = .slice A167 n168 c169 ∧ SameBut M55 w40 w166 ∧ stCells (⟨g148, 0, none⟩ : Addr) [(.slice A167 n168 c169), (.slice none 0 0), (.slice (some (⟨g163, 0, none⟩ : Addr)) ((32 : Int).toNat) ((32 : Int).toNat)), (.int .i64 0), (.int .i64 0)] 0 w166 fun w170 => J54 ((⟨g148, 0, none⟩ : Addr), ()) w170) ∧ True)) ∧ (vcMake Try.prog 25 32 32 w149 fun g171 w172 => SameBut M55 w40 w172 ∧ Run Try.prog (Instr.buildSlice 24 0 #[]) w172 fun v173 w174 => ∃ (A175 : Option Addr) (n176 c177 : Nat), v173 = .slice A175 n176 c177 ∧ SameBut M55 w40 w174 ∧ Run Try.prog (Builtin.append_ #[24, 24] 24 #[(.slice A175 n176 c177), (.slice A0 n0 c0)]) w174 fun v178 w179 => ∃ (A180 : Option Addr) (n181 c182 : Nat), v178 = .slice A180 n181 c182 ∧ SameBut M55 w40 w179 ∧ stCells (⟨g148, 0, none⟩ : Addr) [(.slice A180 n181 c182), (.slice none 0 0), (.slice (some (⟨g171, 0, none⟩ : Addr)) ((32 : Int).toNat) ((32 : Int).toNat)), (.int .i64 0), (.int .i64 0)] 0 w179 fun w183 => J54 ((⟨g148, 0, none⟩ : Addr), ()) w183) ∧ True)) ∧ True))) fun z184 w185 => LoopT (σ := Int × Unit) (fun z186 w187 next188 => bcase (decide (z186.1 < x1)) (Cll Try.prog 98 #[(.slice A0 n0 c0), (.int .i64 z186.1)] w187 fun v189 w190 => (∃ u191 : Value, (∃ (n192 : Int), True ∧ ∃ (A193 : Option Addr) (n194 : Nat) (c195 : Nat), True ∧ ∃ (A196 : Option Addr) (n197 : Nat) (c198 : Nat), True ∧ u191 = (.agg #[(.int .i64 n192), (.slice A193 n194 c195), (.slice A196 n197 c198)]) ∧ ∃ u199 : Value, (∃ (b200 : Bool), u199 = (.bool b200) ∧ v189 = (.tuple #[(.agg #[(.int .i64 n192), (.slice A193 n194 c195), (.slice A196 n197 c198)]), (.bool b200)]) ∧ newK w190 (.cells #[(.int .i64 0), (.slice none 0 0), (.slice none 0 0)] 96) fun g201 w202 => stCells (⟨g201, 0, none⟩ : Addr) [(.int .i64 n192), (.slice A193 n194 c195), (.slice A196 n197 c198)] 0 w202 fun w203 => ∃ (A204 : Option Addr) (n205 : Nat) (c206 : Nat), w203.cell? ((z184.1.add 1).add 0) = some (.slice A204 n205 c206) ∧ ∃ (n207 : Int), w203.cell? ((⟨g201, 0, none⟩ : Addr).add 0) = some (.int .i64 n207) ∧ ∃ (A208 : Option Addr) (n209 : Nat) (c210 : Nat), w203.cell? ((⟨g201, 0, none⟩ : Addr).add 1) = some (.slice A208 n209 c210) ∧ ∃ (A211 : Option Addr) (n212 : Nat) (c213 : Nat), w203.cell? ((⟨g201, 0, none⟩ : Addr).add 2) = some (.slice A211 n212 c213) ∧ Run Try.prog (Instr.buildSlice 46 1 #[(0, (.agg #[(.int .i64 n207), (.slice A208 n209 c210), (.slice A211 n212 c213)]))]) w203 fun v214 w215 => ∃ (A216 : Option Addr) (n217 c218 : Nat), v214 = .slice A216 n217 c218 ∧ Run Try.prog (Builtin.append_ #[46, 46] 46 #[(.slice A204 n205 c206), (.slice A216 n217 c218)]) w215 fun v219 w220 => ∃ (A221 : Option Addr) (n222 c223 : Nat), v219 = .slice A221 n222 c223 ∧ stCells (z184.1.add 1) [(.slice A221 n222 c223)] 0 w220 fun w224 => next188 ((IntKind.wrap .i64 (z186.1 + 1)), ()) w224)))) (∃ (A225 : Option Addr) (n226 : Nat) (c227 : Nat), w187.cell? (z184.1.add 0) = some (.slice A225 n226 c227) ∧ ∃ (A228 : Option Addr) (n229 : Nat) (c230 : Nat), w187.cell? (z184.1.add 1) = some (.slice A228 n229 c230) ∧ ∃ (A231 : Option Addr) (n232 : Nat) (c233 : Nat), w187.cell? (z184.1.add 2) = some (.slice A231 n232 c233) ∧ ∃ (n234 : Int), w187.cell? (z184.1.add 3) = some (.int .i64 n234) ∧ ∃ (n235 : Int), w187.cell? (z184.1.add 4) = some (.int .i64 n235) ∧ stCells (⟨g21, 0, none⟩ : Addr) [(.slice A225 n226 c227), (.slice A228 n229 c230), (.slice A231 n232 c233), (.int .i64 n234), (.int .i64 n235)] 0 w187 fun w236 => ∃ (A237 : Option Addr) (n238 : Nat) (c239 : Nat), w236.cell? ((⟨g21, 0, none⟩ : Addr).add 0) = some (.slice A237 n238 c239) ∧ ∃ (A240 : Option Addr) (n241 : Nat) (c242 : Nat), w236.cell? ((⟨g21, 0, none⟩ : Addr).add 1) = some (.slice A240 n241 c242) ∧ ∃ (A243 : Option Addr) (n244 : Nat) (c245 : Nat), w236.cell? ((⟨g21, 0, none⟩ : Addr).add 2) = some (.slice A243 n244 c245) ∧ ∃ (n246 : Int), w236.cell? ((⟨g21, 0, none⟩ : Addr).add 3) = some (.int .i64 n246) ∧ ∃ (n247 : Int), w236.cell? ((⟨g21, 0, none⟩ : Addr).add 4) = some (.int .i64 n247) ∧ K (.tuple #[(.agg #[(.slice A237 n238 c239), (.slice A240 n241 c242), (.slice A243 n244 c245), (.int .i64 n246), (.int .i64 n247)]), (.bool true)]) w236)) (0, ()) w185))))

def spec_BlockNew.ann : Ann := (.seq .l (.seq (.seq .l (.two (.seq .l .l) .l)) (.cut [(6, .ptr)] .l (.seq (.seq .l (.one (.loop [(7, .int .i64)] (.seq (.seq .l (.two .l .l)) (.seq (.one (.seq .l .l)) .l))))) (.seq .l .l)))))

theorem spec_BlockNew.vc_eq (A0 : Option Addr) (n0 : Nat) (c0 : Nat) (x1 : Int) (w : World) (K : Value → World → Prop) : vcF Try.prog Try.f42 spec_BlockNew.ann [(.slice A0 n0 c0), (.int .i64 x1)] K w = spec_BlockNew.vc A0 n0 c0 x1 w K := by kernel_rfl

theorem spec_BlockNew.start {A0 : Option Addr} {n0 : Nat} {c0 : Nat} {x1 : Int} {w : World} {K : Value → World → Prop} (h : spec_BlockNew.vc A0 n0 c0 x1 w K) : Cll Try.prog 42 #[(.slice A0 n0 c0), (.int .i64 x1)] w K :=
  vcF_sound mixed (fn := Try.f42) (by kernel_rfl) (by kernel_rfl) (an := spec_BlockNew.ann) (args := [(.slice A0 n0 c0), (.int .i64 x1)]) (by rw [spec_BlockNew.vc_eq]; exact h)

theorem spec_BlockNew.con {xs0 : List D.Ins} {A0 : Option Addr} {c0 : Nat} {x1 : Int} {r : D.Block × Bool} {w : World} (hp : M.spec_BlockNew_pre xs0 x1) (hr : r = M.spec_BlockNew xs0 x1) (R0 : Row el99 w A0 xs0) (hc0 : xs0.length ≤ c0) :
    Cll Try.prog 42 #[(.slice A0 xs0.length c0), (.int .i64 x1)] w (fun v_ w_ => ∃ (A0_ : Option Addr) (c0_ : Nat) (A1_ : Option Addr) (c1_ : Nat) (F1_ : Nat → Prop) (A2_ : Option Addr) (c2_ : Nat), v_ = (.tuple #[(.agg #[(.slice A0_ r.1.Code.length c0_), (.slice A1_ r.1.Warps.length c1_), (.slice A2_ r.1.Memory.length c2_), (.int .i64 r.1.Waiting), (.int .i64 r.1.Phase)]), (.bool r.2)]) ∧ Own el99 w_ w.heap.size A0_ c0_ r.1.Code ∧ OwnW 96 el134 el3 w_ w.heap.size F1_ A1_ c1_ r.1.Warps ∧ Own el3 w_ w.heap.size A2_ c2_ r.1.Memory ∧ Dis (InW A1_ F1_) (InB A2_) ∧ Ext w w_) := by
  have H := wp.spec_BlockNew.math xs0 x1 hp
  have hB := Ext.refl w
  refine spec_BlockNew.start ?_
  unfold spec_BlockNew.vc
  unfold wp.spec_BlockNew at H
  refine newBlk (fun g2_ w21 L2 P2 e22 => ?_)
  have O2 := P2
  have L2 := Nat.le_trans hB.size L2
  have hB := ethen hB e22
  obtain ⟨hp25, H⟩ := H
  obtain ⟨r23, hr24⟩ : ∃ r_, r_ = M.spec_ProgramOk xs0 := ⟨_, rfl⟩
  have H := H r23 hr24
  refine (spec_ProgramOk.con hp25 hr24 (R0.ext hB) hc0).mono ?_
  rintro _ w26 ⟨rfl, e27⟩
  have O2 := O2.ext e27
  have hB := ethen hB e27
  refine ⟨r23, rfl, ?_⟩
  refine bcase_mk (fun hc336 => ?_) (fun hc336 => ?_)
  · have H := (bcase_iff.1 H).1 hc336
    refine stBlk O2 (o := 0) (cs' := #[(.slice none 0 0), (.slice none 0 0), (.slice none 0 0), (.int .i64 0), (.int .i64 0)]) rfl rfl (Nat.le_of_ble_eq_true rfl) rfl (fun w28 P2 e29 => ?_)
    have hB := echg hB e29 L2
    have O2 := P2
    refine ⟨_, _, _, (O2.at 0 rfl rfl), ?_⟩
    refine ⟨_, _, _, (O2.at 1 rfl rfl), ?_⟩
    refine ⟨_, _, _, (O2.at 2 rfl rfl), ?_⟩
    refine ⟨_, (O2.at 3 rfl rfl), ?_⟩
    refine ⟨_, (O2.at 4 rfl rfl), ?_⟩
    obtain rfl := hr.trans H.symm
    exact ⟨none, 0, none, 0, (fun _ => False), none, 0, rfl, Own.nil, OwnW.nil, Own.nil, nilW_dis, hB⟩
  · have H := (bcase_iff.1 H).2 hc336
    obtain ⟨r30, hr31⟩ : ∃ r_, r_ = M.spec_l01In x1 1 3 := ⟨_, rfl⟩
    have H := H r30 hr31
    refine (spec_l01In.con hr31 ).mono ?_
    rintro _ w33 ⟨rfl, e34⟩
    have O2 := O2.ext e34
    have hB := ethen hB e34
    refine ⟨r30, rfl, ?_⟩
    refine bcase_mk (fun hc335 => ?_) (fun hc335 => ?_)
    · have H := (bcase_iff.1 H).1 hc335
      refine stBlk O2 (o := 0) (cs' := #[(.slice none 0 0), (.slice none 0 0), (.slice none 0 0), (.int .i64 0), (.int .i64 0)]) rfl rfl (Nat.le_of_ble_eq_true rfl) rfl (fun w35 P2 e36 => ?_)
      have hB := echg hB e36 L2
      have O2 := P2
      refine ⟨_, _, _, (O2.at 0 rfl rfl), ?_⟩
      refine ⟨_, _, _, (O2.at 1 rfl rfl), ?_⟩
      refine ⟨_, _, _, (O2.at 2 rfl rfl), ?_⟩
      refine ⟨_, (O2.at 3 rfl rfl), ?_⟩
      refine ⟨_, (O2.at 4 rfl rfl), ?_⟩
      obtain rfl := hr.trans H.symm
      exact ⟨none, 0, none, 0, (fun _ => False), none, 0, rfl, Own.nil, OwnW.nil, Own.nil, nilW_dis, hB⟩
    · have H := (bcase_iff.1 H).2 hc335
      obtain ⟨K334, hKK334, H⟩ := joinP_out H
      refine ⟨fun z_ w_ => ∃ (xs37 : List D.Ins) (xs41 : List D.Warp) (xs44 : List Int) (i47 : Int) (i48 : Int) (g26_ : Nat) (A38 : Option Addr) (c39 : Nat) (A42 : Option Addr) (c43 : Nat) (F40 : Nat → Prop) (A45 : Option Addr) (c46 : Nat), z_ = ((⟨g26_, 0, none⟩ : Addr), ()) ∧ K334 (xs37, xs41, xs44, i47, i48, ()) ∧ Ext w w_ ∧ Blk w_ g26_ 48 #[(.slice A38 xs37.length c39), (.slice A42 xs41.length c43), (.slice A45 xs44.length c46), (.int .i64 i47), (.int .i64 i48)] ∧ w.heap.size ≤ g26_ ∧ Own el99 w_ w.heap.size A38 c39 xs37 ∧ OwnW 96 el134 el3 w_ w.heap.size F40 A42 c43 xs41 ∧ Own el3 w_ w.heap.size A45 c46 xs44 ∧ Blk w_ g2_ 48 #[(.slice none 0 0), (.slice none 0 0), (.slice none 0 0), (.int .i64 0), (.int .i64 0)] ∧ g2_ ≠ g26_ ∧ Dis (InW A42 F40) (InB A45), ?_, ?_⟩
      · refine ⟨(fun _ => False), ?_⟩
        refine And.intro ?_ ?_
        · have H := H.1
          have hS52 := Chg.refl (fun _ => False) w33
          have O2 := O2.ext (Ext.drew _)
          have hB := ethen hB (Ext.drew _)
          have hS52 := hS52.then (Ext.drew _)
          refine buildOwn el99 ([] : List D.Ins) (fun _ => by kernel_rfl) rfl (fun A53 w54 P30 e55 => ?_)
          have N30_2 := P30.apart_old O2.lt
          have O2 := O2.ext e55
          have LB30 := (P30.mono hS52.size).low
          have O30 := P30.mono hB.size
          have hB := ethen hB e55
          have hS52 := hS52.then e55
          refine ⟨sameBut_chg hS52, ?_⟩
          refine And.intro ?_ ?_
          · have H := H.1
            obtain ⟨hl60, H⟩ := H
            refine appOwn slt24 slt24.under O30 (R0.ext hB) hB.size (by first | rfl | omega | (simp; done) | (simp; omega)) rfl hl60 (fun A56 c57 w58 P30 e59 => ?_)
            have N30_2_ := Apart.app N30_2 e59 O2.lt
            have O2 := O2.app e59 N30_2
            have N30_2 := N30_2_
            have hsz30_ := hS52.size
            have hS52 := hS52.app e59 (fun g h_ => (Or.inl (LB30 g h_)))
            have LB30 := e59.low LB30 hsz30_
            have hB := eapp hB e59 O30
            have O30 := P30
            refine ⟨sameBut_chg hS52, ?_⟩
            refine And.intro ?_ ?_
            · have H := H.1
              obtain ⟨⟨h0_64, h1_65⟩, H⟩ := H
              refine makeOwn slt25 h0_64 h1_65 (fun g61 w62 P31 e63 => ?_)
              have N31_2 := P31.apart_old O2.lt
              have N30_31 := Own.apart2_new O30 P31 (Nat.le_refl _)
              have O2 := O2.ext e63
              have O30 := O30.ext e63
              have LB31 := (P31.mono hS52.size).low
              have O31 := P31.mono hB.size
              have hB := ethen hB e63
              have hS52 := hS52.then e63
              refine ⟨sameBut_chg hS52, ?_⟩
              refine newBlk (fun g32_ w66 L32 P32 e67 => ?_)
              have N2_32 := O2.ne L32
              have N30_32 := O30.apart_new L32
              have N31_32 := O31.apart_new L32
              have O2 := O2.ext e67
              have O30 := O30.ext e67
              have O31 := O31.ext e67
              have O32 := P32
              have LB32 := Nat.le_trans hS52.size L32
              have L32 := Nat.le_trans hB.size L32
              have hB := ethen hB e67
              have hS52 := hS52.then e67
              refine ⟨sameBut_chg hS52, ?_⟩
              refine stBlk O32 (o := 0) (cs' := #[(.slice A56 (((([] : List D.Ins) ++ xs0)).length) c57), (.slice none 0 0), (.slice (some (⟨g61, 0, none⟩ : Addr)) ((32 : Int).toNat) ((32 : Int).toNat)), (.int .i64 0), (.int .i64 0)]) rfl rfl (Nat.le_of_ble_eq_true rfl) rfl (fun w68 P32 e69 => ?_)
              have O2_ := O2.chg e69 N2_32
              have O30_ := O30.chg e69 N30_32
              have O31_ := O31.chg e69 N31_32
              have O2 := O2_
              have O30 := O30_
              have O31 := O31_
              have hB := echg hB e69 L32
              have O32 := P32
              exact ⟨(([] : List D.Ins) ++ xs0), [], (List.replicate ((32 : Int).toNat) (default : Int)), 0, 0, g32_, A56, c57, none, 0, (fun _ => False), (some (⟨g61, 0, none⟩ : Addr)), ((32 : Int).toNat), rfl, H, hB, O32, L32, O30, OwnW.nil, O31, O2, N2_32, nilW_dis⟩
            · refine And.intro ?_ ?_
              · have H := H.2.1
                refine newBlk (fun g33_ w70 L33 P33 e71 => ?_)
                have N2_33 := O2.ne L33
                have N30_33 := O30.apart_new L33
                have O2 := O2.ext e71
                have O30 := O30.ext e71
                have O33 := P33
                have LB33 := Nat.le_trans hS52.size L33
                have L33 := Nat.le_trans hB.size L33
                have hB := ethen hB e71
                have hS52 := hS52.then e71
                refine ⟨sameBut_chg hS52, ?_⟩
                obtain ⟨⟨h0_75, h1_76⟩, H⟩ := H
                refine makeOwn slt25 h0_75 h1_76 (fun g72 w73 P34 e74 => ?_)
                have N34_2 := P34.apart_old O2.lt
                have N30_34 := Own.apart2_new O30 P34 (Nat.le_refl _)
                have N34_33 := P34.apart_old O33.lt
                have O2 := O2.ext e74
                have O30 := O30.ext e74
                have O33 := O33.ext e74
                have LB34 := (P34.mono hS52.size).low
                have O34 := P34.mono hB.size
                have hB := ethen hB e74
                have hS52 := hS52.then e74
                refine ⟨sameBut_chg hS52, ?_⟩
                refine stBlk O33 (o := 0) (cs' := #[(.slice A56 (((([] : List D.Ins) ++ xs0)).length) c57), (.slice none 0 0), (.slice (some (⟨g72, 0, none⟩ : Addr)) ((32 : Int).toNat) ((32 : Int).toNat)), (.int .i64 0), (.int .i64 0)]) rfl rfl (Nat.le_of_ble_eq_true rfl) rfl (fun w77 P33 e78 => ?_)
                have O2_ := O2.chg e78 N2_33
                have O30_ := O30.chg e78 N30_33
                have O34_ := O34.chg e78 N34_33
                have O2 := O2_
                have O30 := O30_
                have O34 := O34_
                have hB := echg hB e78 L33
                have O33 := P33
                exact ⟨(([] : List D.Ins) ++ xs0), [], (List.replicate ((32 : Int).toNat) (default : Int)), 0, 0, g33_, A56, c57, none, 0, (fun _ => False), (some (⟨g72, 0, none⟩ : Addr)), ((32 : Int).toNat), rfl, H, hB, O33, L33, O30, OwnW.nil, O34, O2, N2_33, nilW_dis⟩
              · exact trivial
          · refine And.intro ?_ ?_
            · have H := H.2.1
              obtain ⟨⟨h0_82, h1_83⟩, H⟩ := H
              refine makeOwn slt25 h0_82 h1_83 (fun g79 w80 P35 e81 => ?_)
              have N35_2 := P35.apart_old O2.lt
              have N30_35 := Own.apart2_new O30 P35 (Nat.le_refl _)
              have O2 := O2.ext e81
              have O30 := O30.ext e81
              have LB35 := (P35.mono hS52.size).low
              have O35 := P35.mono hB.size
              have hB := ethen hB e81
              have hS52 := hS52.then e81
              refine ⟨sameBut_chg hS52, ?_⟩
              refine And.intro ?_ ?_
              · have H := H.1
                obtain ⟨hl88, H⟩ := H
                refine appOwn slt24 slt24.under O30 (R0.ext hB) hB.size (by first | rfl | omega | (simp; done) | (simp; omega)) rfl hl88 (fun A84 c85 w86 P30 e87 => ?_)
                have N30_2_ := Apart.app N30_2 e87 O2.lt
                have O2 := O2.app e87 N30_2
                have N30_2 := N30_2_
                have N35_30_ := Apart2.app (N30_35).symm e87 O35
                have O35 := O35.app e87 (N30_35).symm
                have N35_30 := N35_30_
                have hsz30_ := hS52.size
                have hS52 := hS52.app e87 (fun g h_ => (Or.inl (LB30 g h_)))
                have LB30 := e87.low LB30 hsz30_
                have hB := eapp hB e87 O30
                have O30 := P30
                refine ⟨sameBut_chg hS52, ?_⟩
                refine newBlk (fun g36_ w89 L36 P36 e90 => ?_)
                have N2_36 := O2.ne L36
                have N30_36 := O30.apart_new L36
                have N35_36 := O35.apart_new L36
                have O2 := O2.ext e90
                have O30 := O30.ext e90
                have O35 := O35.ext e90
                have O36 := P36
                have LB36 := Nat.le_trans hS52.size L36
                have L36 := Nat.le_trans hB.size L36
                have hB := ethen hB e90
                have hS52 := hS52.then e90
                refine ⟨sameBut_chg hS52, ?_⟩
                refine stBlk O36 (o := 0) (cs' := #[(.slice A84 (((([] : List D.Ins) ++ xs0)).length) c85), (.slice none 0 0), (.slice (some (⟨g79, 0, none⟩ : Addr)) ((32 : Int).toNat) ((32 : Int).toNat)), (.int .i64 0), (.int .i64 0)]) rfl rfl (Nat.le_of_ble_eq_true rfl) rfl (fun w91 P36 e92 => ?_)
                have O2_ := O2.chg e92 N2_36
                have O30_ := O30.chg e92 N30_36
                have O35_ := O35.chg e92 N35_36
                have O2 := O2_
                have O30 := O30_
                have O35 := O35_
                have hB := echg hB e92 L36
                have O36 := P36
                exact ⟨(([] : List D.Ins) ++ xs0), [], (List.replicate ((32 : Int).toNat) (default : Int)), 0, 0, g36_, A84, c85, none, 0, (fun _ => False), (some (⟨g79, 0, none⟩ : Addr)), ((32 : Int).toNat), rfl, H, hB, O36, L36, O30, OwnW.nil, O35, O2, N2_36, nilW_dis⟩
              · refine And.intro ?_ ?_
                · have H := H.2.1
                  refine newBlk (fun g37_ w93 L37 P37 e94 => ?_)
                  have N2_37 := O2.ne L37
                  have N30_37 := O30.apart_new L37
                  have N35_37 := O35.apart_new L37
                  have O2 := O2.ext e94
                  have O30 := O30.ext e94
                  have O35 := O35.ext e94
                  have O37 := P37
                  have LB37 := Nat.le_trans hS52.size L37
                  have L37 := Nat.le_trans hB.size L37
                  have hB := ethen hB e94
                  have hS52 := hS52.then e94
                  refine ⟨sameBut_chg hS52, ?_⟩
                  obtain ⟨hl99, H⟩ := H
                  refine appOwn slt24 slt24.under O30 (R0.ext hB) hB.size (by first | rfl | omega | (simp; done) | (simp; omega)) rfl hl99 (fun A95 c96 w97 P30 e98 => ?_)
                  have N30_2_ := Apart.app N30_2 e98 O2.lt
                  have O2 := O2.app e98 N30_2
                  have N30_2 := N30_2_
                  have N35_30_ := Apart2.app (N30_35).symm e98 O35
                  have O35 := O35.app e98 (N30_35).symm
                  have N35_30 := N35_30_
                  have N30_37_ := Apart.app N30_37 e98 O37.lt
                  have O37 := O37.app e98 N30_37
                  have N30_37 := N30_37_
                  have hsz30_ := hS52.size
                  have hS52 := hS52.app e98 (fun g h_ => (Or.inl (LB30 g h_)))
                  have LB30 := e98.low LB30 hsz30_
                  have hB := eapp hB e98 O30
                  have O30 := P30
                  refine ⟨sameBut_chg hS52, ?_⟩
                  refine stBlk O37 (o := 0) (cs' := #[(.slice A95 (((([] : List D.Ins) ++ xs0)).length) c96), (.slice none 0 0), (.slice (some (⟨g79, 0, none⟩ : Addr)) ((32 : Int).toNat) ((32 : Int).toNat)), (.int .i64 0), (.int .i64 0)]) rfl rfl (Nat.le_of_ble_eq_true rfl) rfl (fun w100 P37 e101 => ?_)
                  have O2_ := O2.chg e101 N2_37
                  have O30_ := O30.chg e101 N30_37
                  have O35_ := O35.chg e101 N35_37
                  have O2 := O2_
                  have O30 := O30_
                  have O35 := O35_
                  have hB := echg hB e101 L37
                  have O37 := P37
                  exact ⟨(([] : List D.Ins) ++ xs0), [], (List.replicate ((32 : Int).toNat) (default : Int)), 0, 0, g37_, A95, c96, none, 0, (fun _ => False), (some (⟨g79, 0, none⟩ : Addr)), ((32 : Int).toNat), rfl, H, hB, O37, L37, O30, OwnW.nil, O35, O2, N2_37, nilW_dis⟩
                · exact trivial
            · refine And.intro ?_ ?_
              · have H := H.2.2.1
                refine newBlk (fun g38_ w102 L38 P38 e103 => ?_)
                have N2_38 := O2.ne L38
                have N30_38 := O30.apart_new L38
                have O2 := O2.ext e103
                have O30 := O30.ext e103
                have O38 := P38
                have LB38 := Nat.le_trans hS52.size L38
                have L38 := Nat.le_trans hB.size L38
                have hB := ethen hB e103
                have hS52 := hS52.then e103
                refine ⟨sameBut_chg hS52, ?_⟩
                refine And.intro ?_ ?_
                · have H := H.1
                  obtain ⟨hl108, H⟩ := H
                  refine appOwn slt24 slt24.under O30 (R0.ext hB) hB.size (by first | rfl | omega | (simp; done) | (simp; omega)) rfl hl108 (fun A104 c105 w106 P30 e107 => ?_)
                  have N30_2_ := Apart.app N30_2 e107 O2.lt
                  have O2 := O2.app e107 N30_2
                  have N30_2 := N30_2_
                  have N30_38_ := Apart.app N30_38 e107 O38.lt
                  have O38 := O38.app e107 N30_38
                  have N30_38 := N30_38_
                  have hsz30_ := hS52.size
                  have hS52 := hS52.app e107 (fun g h_ => (Or.inl (LB30 g h_)))
                  have LB30 := e107.low LB30 hsz30_
                  have hB := eapp hB e107 O30
                  have O30 := P30
                  refine ⟨sameBut_chg hS52, ?_⟩
                  obtain ⟨⟨h0_112, h1_113⟩, H⟩ := H
                  refine makeOwn slt25 h0_112 h1_113 (fun g109 w110 P39 e111 => ?_)
                  have N39_2 := P39.apart_old O2.lt
                  have N30_39 := Own.apart2_new O30 P39 (Nat.le_refl _)
                  have N39_38 := P39.apart_old O38.lt
                  have O2 := O2.ext e111
                  have O30 := O30.ext e111
                  have O38 := O38.ext e111
                  have LB39 := (P39.mono hS52.size).low
                  have O39 := P39.mono hB.size
                  have hB := ethen hB e111
                  have hS52 := hS52.then e111
                  refine ⟨sameBut_chg hS52, ?_⟩
                  refine stBlk O38 (o := 0) (cs' := #[(.slice A104 (((([] : List D.Ins) ++ xs0)).length) c105), (.slice none 0 0), (.slice (some (⟨g109, 0, none⟩ : Addr)) ((32 : Int).toNat) ((32 : Int).toNat)), (.int .i64 0), (.int .i64 0)]) rfl rfl (Nat.le_of_ble_eq_true rfl) rfl (fun w114 P38 e115 => ?_)
                  have O2_ := O2.chg e115 N2_38
                  have O30_ := O30.chg e115 N30_38
                  have O39_ := O39.chg e115 N39_38
                  have O2 := O2_
                  have O30 := O30_
                  have O39 := O39_
                  have hB := echg hB e115 L38
                  have O38 := P38
                  exact ⟨(([] : List D.Ins) ++ xs0), [], (List.replicate ((32 : Int).toNat) (default : Int)), 0, 0, g38_, A104, c105, none, 0, (fun _ => False), (some (⟨g109, 0, none⟩ : Addr)), ((32 : Int).toNat), rfl, H, hB, O38, L38, O30, OwnW.nil, O39, O2, N2_38, nilW_dis⟩
                · refine And.intro ?_ ?_
                  · have H := H.2.1
                    obtain ⟨⟨h0_119, h1_120⟩, H⟩ := H
                    refine makeOwn slt25 h0_119 h1_120 (fun g116 w117 P40 e118 => ?_)
                    have N40_2 := P40.apart_old O2.lt
                    have N30_40 := Own.apart2_new O30 P40 (Nat.le_refl _)
                    have N40_38 := P40.apart_old O38.lt
                    have O2 := O2.ext e118
                    have O30 := O30.ext e118
                    have O38 := O38.ext e118
                    have LB40 := (P40.mono hS52.size).low
                    have O40 := P40.mono hB.size
                    have hB := ethen hB e118
                    have hS52 := hS52.then e118
                    refine ⟨sameBut_chg hS52, ?_⟩
                    obtain ⟨hl125, H⟩ := H
                    refine appOwn slt24 slt24.under O30 (R0.ext hB) hB.size (by first | rfl | omega | (simp; done) | (simp; omega)) rfl hl125 (fun A121 c122 w123 P30 e124 => ?_)
                    have N30_2_ := Apart.app N30_2 e124 O2.lt
                    have O2 := O2.app e124 N30_2
                    have N30_2 := N30_2_
                    have N30_38_ := Apart.app N30_38 e124 O38.lt
                    have O38 := O38.app e124 N30_38
                    have N30_38 := N30_38_
                    have N40_30_ := Apart2.app (N30_40).symm e124 O40
                    have O40 := O40.app e124 (N30_40).symm
                    have N40_30 := N40_30_
                    have hsz30_ := hS52.size
                    have hS52 := hS52.app e124 (fun g h_ => (Or.inl (LB30 g h_)))
                    have LB30 := e124.low LB30 hsz30_
                    have hB := eapp hB e124 O30
                    have O30 := P30
                    refine ⟨sameBut_chg hS52, ?_⟩
                    refine stBlk O38 (o := 0) (cs' := #[(.slice A121 (((([] : List D.Ins) ++ xs0)).length) c122), (.slice none 0 0), (.slice (some (⟨g116, 0, none⟩ : Addr)) ((32 : Int).toNat) ((32 : Int).toNat)), (.int .i64 0), (.int .i64 0)]) rfl rfl (Nat.le_of_ble_eq_true rfl) rfl (fun w126 P38 e127 => ?_)
                    have O2_ := O2.chg e127 N2_38
                    have O30_ := O30.chg e127 N30_38
                    have O40_ := O40.chg e127 N40_38
                    have O2 := O2_
                    have O30 := O30_
                    have O40 := O40_
                    have hB := echg hB e127 L38
                    have O38 := P38
                    exact ⟨(([] : List D.Ins) ++ xs0), [], (List.replicate ((32 : Int).toNat) (default : Int)), 0, 0, g38_, A121, c122, none, 0, (fun _ => False), (some (⟨g116, 0, none⟩ : Addr)), ((32 : Int).toNat), rfl, H, hB, O38, L38, O30, OwnW.nil, O40, O2, N2_38, nilW_dis⟩
                  · exact trivial
              · exact trivial
        · refine And.intro ?_ ?_
          · have H := H.2.1
            have hS52 := Chg.refl (fun _ => False) w33
            have O2 := O2.ext (Ext.drew _)
            have hB := ethen hB (Ext.drew _)
            have hS52 := hS52.then (Ext.drew _)
            obtain ⟨⟨h0_131, h1_132⟩, H⟩ := H
            refine makeOwn slt25 h0_131 h1_132 (fun g128 w129 P41 e130 => ?_)
            have N41_2 := P41.apart_old O2.lt
            have O2 := O2.ext e130
            have LB41 := (P41.mono hS52.size).low
            have O41 := P41.mono hB.size
            have hB := ethen hB e130
            have hS52 := hS52.then e130
            refine ⟨sameBut_chg hS52, ?_⟩
            refine And.intro ?_ ?_
            · have H := H.1
              refine buildOwn el99 ([] : List D.Ins) (fun _ => by kernel_rfl) rfl (fun A133 w134 P42 e135 => ?_)
              have N42_2 := P42.apart_old O2.lt
              have N41_42 := Own.apart2_new O41 P42 (Nat.le_refl _)
              have O2 := O2.ext e135
              have O41 := O41.ext e135
              have LB42 := (P42.mono hS52.size).low
              have O42 := P42.mono hB.size
              have hB := ethen hB e135
              have hS52 := hS52.then e135
              refine ⟨sameBut_chg hS52, ?_⟩
              refine And.intro ?_ ?_
              · have H := H.1
                obtain ⟨hl140, H⟩ := H
                refine appOwn slt24 slt24.under O42 (R0.ext hB) hB.size (by first | rfl | omega | (simp; done) | (simp; omega)) rfl hl140 (fun A136 c137 w138 P42 e139 => ?_)
                have N42_2_ := Apart.app N42_2 e139 O2.lt
                have O2 := O2.app e139 N42_2
                have N42_2 := N42_2_
                have N41_42_ := Apart2.app N41_42 e139 O41
                have O41 := O41.app e139 N41_42
                have N41_42 := N41_42_
                have hsz42_ := hS52.size
                have hS52 := hS52.app e139 (fun g h_ => (Or.inl (LB42 g h_)))
                have LB42 := e139.low LB42 hsz42_
                have hB := eapp hB e139 O42
                have O42 := P42
                refine ⟨sameBut_chg hS52, ?_⟩
                refine newBlk (fun g43_ w141 L43 P43 e142 => ?_)
                have N2_43 := O2.ne L43
                have N41_43 := O41.apart_new L43
                have N42_43 := O42.apart_new L43
                have O2 := O2.ext e142
                have O41 := O41.ext e142
                have O42 := O42.ext e142
                have O43 := P43
                have LB43 := Nat.le_trans hS52.size L43
                have L43 := Nat.le_trans hB.size L43
                have hB := ethen hB e142
                have hS52 := hS52.then e142
                refine ⟨sameBut_chg hS52, ?_⟩
                refine stBlk O43 (o := 0) (cs' := #[(.slice A136 (((([] : List D.Ins) ++ xs0)).length) c137), (.slice none 0 0), (.slice (some (⟨g128, 0, none⟩ : Addr)) ((32 : Int).toNat) ((32 : Int).toNat)), (.int .i64 0), (.int .i64 0)]) rfl rfl (Nat.le_of_ble_eq_true rfl) rfl (fun w143 P43 e144 => ?_)
                have O2_ := O2.chg e144 N2_43
                have O41_ := O41.chg e144 N41_43
                have O42_ := O42.chg e144 N42_43
                have O2 := O2_
                have O41 := O41_
                have O42 := O42_
                have hB := echg hB e144 L43
                have O43 := P43
                exact ⟨(([] : List D.Ins) ++ xs0), [], (List.replicate ((32 : Int).toNat) (default : Int)), 0, 0, g43_, A136, c137, none, 0, (fun _ => False), (some (⟨g128, 0, none⟩ : Addr)), ((32 : Int).toNat), rfl, H, hB, O43, L43, O42, OwnW.nil, O41, O2, N2_43, nilW_dis⟩
              · refine And.intro ?_ ?_
                · have H := H.2.1
                  refine newBlk (fun g44_ w145 L44 P44 e146 => ?_)
                  have N2_44 := O2.ne L44
                  have N41_44 := O41.apart_new L44
                  have N42_44 := O42.apart_new L44
                  have O2 := O2.ext e146
                  have O41 := O41.ext e146
                  have O42 := O42.ext e146
                  have O44 := P44
                  have LB44 := Nat.le_trans hS52.size L44
                  have L44 := Nat.le_trans hB.size L44
                  have hB := ethen hB e146
                  have hS52 := hS52.then e146
                  refine ⟨sameBut_chg hS52, ?_⟩
                  obtain ⟨hl151, H⟩ := H
                  refine appOwn slt24 slt24.under O42 (R0.ext hB) hB.size (by first | rfl | omega | (simp; done) | (simp; omega)) rfl hl151 (fun A147 c148 w149 P42 e150 => ?_)
                  have N42_2_ := Apart.app N42_2 e150 O2.lt
                  have O2 := O2.app e150 N42_2
                  have N42_2 := N42_2_
                  have N41_42_ := Apart2.app N41_42 e150 O41
                  have O41 := O41.app e150 N41_42
                  have N41_42 := N41_42_
                  have N42_44_ := Apart.app N42_44 e150 O44.lt
                  have O44 := O44.app e150 N42_44
                  have N42_44 := N42_44_
                  have hsz42_ := hS52.size
                  have hS52 := hS52.app e150 (fun g h_ => (Or.inl (LB42 g h_)))
                  have LB42 := e150.low LB42 hsz42_
                  have hB := eapp hB e150 O42
                  have O42 := P42
                  refine ⟨sameBut_chg hS52, ?_⟩
                  refine stBlk O44 (o := 0) (cs' := #[(.slice A147 (((([] : List D.Ins) ++ xs0)).length) c148), (.slice none 0 0), (.slice (some (⟨g128, 0, none⟩ : Addr)) ((32 : Int).toNat) ((32 : Int).toNat)), (.int .i64 0), (.int .i64 0)]) rfl rfl (Nat.le_of_ble_eq_true rfl) rfl (fun w152 P44 e153 => ?_)
                  have O2_ := O2.chg e153 N2_44
                  have O41_ := O41.chg e153 N41_44
                  have O42_ := O42.chg e153 N42_44
                  have O2 := O2_
                  have O41 := O41_
                  have O42 := O42_
                  have hB := echg hB e153 L44
                  have O44 := P44
                  exact ⟨(([] : List D.Ins) ++ xs0), [], (List.replicate ((32 : Int).toNat) (default : Int)), 0, 0, g44_, A147, c148, none, 0, (fun _ => False), (some (⟨g128, 0, none⟩ : Addr)), ((32 : Int).toNat), rfl, H, hB, O44, L44, O42, OwnW.nil, O41, O2, N2_44, nilW_dis⟩
                · exact trivial
            · refine And.intro ?_ ?_
              · have H := H.2.1
                refine newBlk (fun g45_ w154 L45 P45 e155 => ?_)
                have N2_45 := O2.ne L45
                have N41_45 := O41.apart_new L45
                have O2 := O2.ext e155
                have O41 := O41.ext e155
                have O45 := P45
                have LB45 := Nat.le_trans hS52.size L45
                have L45 := Nat.le_trans hB.size L45
                have hB := ethen hB e155
                have hS52 := hS52.then e155
                refine ⟨sameBut_chg hS52, ?_⟩
                refine buildOwn el99 ([] : List D.Ins) (fun _ => by kernel_rfl) rfl (fun A156 w157 P46 e158 => ?_)
                have N46_2 := P46.apart_old O2.lt
                have N41_46 := Own.apart2_new O41 P46 (Nat.le_refl _)
                have N46_45 := P46.apart_old O45.lt
                have O2 := O2.ext e158
                have O41 := O41.ext e158
                have O45 := O45.ext e158
                have LB46 := (P46.mono hS52.size).low
                have O46 := P46.mono hB.size
                have hB := ethen hB e158
                have hS52 := hS52.then e158
                refine ⟨sameBut_chg hS52, ?_⟩
                obtain ⟨hl163, H⟩ := H
                refine appOwn slt24 slt24.under O46 (R0.ext hB) hB.size (by first | rfl | omega | (simp; done) | (simp; omega)) rfl hl163 (fun A159 c160 w161 P46 e162 => ?_)
                have N46_2_ := Apart.app N46_2 e162 O2.lt
                have O2 := O2.app e162 N46_2
                have N46_2 := N46_2_
                have N41_46_ := Apart2.app N41_46 e162 O41
                have O41 := O41.app e162 N41_46
                have N41_46 := N41_46_
                have N46_45_ := Apart.app N46_45 e162 O45.lt
                have O45 := O45.app e162 N46_45
                have N46_45 := N46_45_
                have hsz46_ := hS52.size
                have hS52 := hS52.app e162 (fun g h_ => (Or.inl (LB46 g h_)))
                have LB46 := e162.low LB46 hsz46_
                have hB := eapp hB e162 O46
                have O46 := P46
                refine ⟨sameBut_chg hS52, ?_⟩
                refine stBlk O45 (o := 0) (cs' := #[(.slice A159 (((([] : List D.Ins) ++ xs0)).length) c160), (.slice none 0 0), (.slice (some (⟨g128, 0, none⟩ : Addr)) ((32 : Int).toNat) ((32 : Int).toNat)), (.int .i64 0), (.int .i64 0)]) rfl rfl (Nat.le_of_ble_eq_true rfl) rfl (fun w164 P45 e165 => ?_)
                have O2_ := O2.chg e165 N2_45
                have O41_ := O41.chg e165 N41_45
                have O46_ := O46.chg e165 N46_45
                have O2 := O2_
                have O41 := O41_
                have O46 := O46_
                have hB := echg hB e165 L45
                have O45 := P45
                exact ⟨(([] : List D.Ins) ++ xs0), [], (List.replicate ((32 : Int).toNat) (default : Int)), 0, 0, g45_, A159, c160, none, 0, (fun _ => False), (some (⟨g128, 0, none⟩ : Addr)), ((32 : Int).toNat), rfl, H, hB, O45, L45, O46, OwnW.nil, O41, O2, N2_45, nilW_dis⟩
              · exact trivial
          · refine And.intro ?_ ?_
            · have H := H.2.2.1
              have hS52 := Chg.refl (fun _ => False) w33
              have O2 := O2.ext (Ext.drew _)
              have hB := ethen hB (Ext.drew _)
              have hS52 := hS52.then (Ext.drew _)
              refine newBlk (fun g47_ w166 L47 P47 e167 => ?_)
              have N2_47 := O2.ne L47
              have O2 := O2.ext e167
              have O47 := P47
              have LB47 := Nat.le_trans hS52.size L47
              have L47 := Nat.le_trans hB.size L47
              have hB := ethen hB e167
              have hS52 := hS52.then e167
              refine ⟨sameBut_chg hS52, ?_⟩
              refine And.intro ?_ ?_
              · have H := H.1
                refine buildOwn el99 ([] : List D.Ins) (fun _ => by kernel_rfl) rfl (fun A168 w169 P48 e170 => ?_)
                have N48_2 := P48.apart_old O2.lt
                have N48_47 := P48.apart_old O47.lt
                have O2 := O2.ext e170
                have O47 := O47.ext e170
                have LB48 := (P48.mono hS52.size).low
                have O48 := P48.mono hB.size
                have hB := ethen hB e170
                have hS52 := hS52.then e170
                refine ⟨sameBut_chg hS52, ?_⟩
                refine And.intro ?_ ?_
                · have H := H.1
                  obtain ⟨hl175, H⟩ := H
                  refine appOwn slt24 slt24.under O48 (R0.ext hB) hB.size (by first | rfl | omega | (simp; done) | (simp; omega)) rfl hl175 (fun A171 c172 w173 P48 e174 => ?_)
                  have N48_2_ := Apart.app N48_2 e174 O2.lt
                  have O2 := O2.app e174 N48_2
                  have N48_2 := N48_2_
                  have N48_47_ := Apart.app N48_47 e174 O47.lt
                  have O47 := O47.app e174 N48_47
                  have N48_47 := N48_47_
                  have hsz48_ := hS52.size
                  have hS52 := hS52.app e174 (fun g h_ => (Or.inl (LB48 g h_)))
                  have LB48 := e174.low LB48 hsz48_
                  have hB := eapp hB e174 O48
                  have O48 := P48
                  refine ⟨sameBut_chg hS52, ?_⟩
                  obtain ⟨⟨h0_179, h1_180⟩, H⟩ := H
                  refine makeOwn slt25 h0_179 h1_180 (fun g176 w177 P49 e178 => ?_)
                  have N49_2 := P49.apart_old O2.lt
                  have N49_47 := P49.apart_old O47.lt
                  have N48_49 := Own.apart2_new O48 P49 (Nat.le_refl _)
                  have O2 := O2.ext e178
                  have O47 := O47.ext e178
                  have O48 := O48.ext e178
                  have LB49 := (P49.mono hS52.size).low
                  have O49 := P49.mono hB.size
                  have hB := ethen hB e178
                  have hS52 := hS52.then e178
                  refine ⟨sameBut_chg hS52, ?_⟩
                  refine stBlk O47 (o := 0) (cs' := #[(.slice A171 (((([] : List D.Ins) ++ xs0)).length) c172), (.slice none 0 0), (.slice (some (⟨g176, 0, none⟩ : Addr)) ((32 : Int).toNat) ((32 : Int).toNat)), (.int .i64 0), (.int .i64 0)]) rfl rfl (Nat.le_of_ble_eq_true rfl) rfl (fun w181 P47 e182 => ?_)
                  have O2_ := O2.chg e182 N2_47
                  have O48_ := O48.chg e182 N48_47
                  have O49_ := O49.chg e182 N49_47
                  have O2 := O2_
                  have O48 := O48_
                  have O49 := O49_
                  have hB := echg hB e182 L47
                  have O47 := P47
                  exact ⟨(([] : List D.Ins) ++ xs0), [], (List.replicate ((32 : Int).toNat) (default : Int)), 0, 0, g47_, A171, c172, none, 0, (fun _ => False), (some (⟨g176, 0, none⟩ : Addr)), ((32 : Int).toNat), rfl, H, hB, O47, L47, O48, OwnW.nil, O49, O2, N2_47, nilW_dis⟩
                · refine And.intro ?_ ?_
                  · have H := H.2.1
                    obtain ⟨⟨h0_186, h1_187⟩, H⟩ := H
                    refine makeOwn slt25 h0_186 h1_187 (fun g183 w184 P50 e185 => ?_)
                    have N50_2 := P50.apart_old O2.lt
                    have N50_47 := P50.apart_old O47.lt
                    have N48_50 := Own.apart2_new O48 P50 (Nat.le_refl _)
                    have O2 := O2.ext e185
                    have O47 := O47.ext e185
                    have O48 := O48.ext e185
                    have LB50 := (P50.mono hS52.size).low
                    have O50 := P50.mono hB.size
                    have hB := ethen hB e185
                    have hS52 := hS52.then e185
                    refine ⟨sameBut_chg hS52, ?_⟩
                    obtain ⟨hl192, H⟩ := H
                    refine appOwn slt24 slt24.under O48 (R0.ext hB) hB.size (by first | rfl | omega | (simp; done) | (simp; omega)) rfl hl192 (fun A188 c189 w190 P48 e191 => ?_)
                    have N48_2_ := Apart.app N48_2 e191 O2.lt
                    have O2 := O2.app e191 N48_2
                    have N48_2 := N48_2_
                    have N48_47_ := Apart.app N48_47 e191 O47.lt
                    have O47 := O47.app e191 N48_47
                    have N48_47 := N48_47_
                    have N50_48_ := Apart2.app (N48_50).symm e191 O50
                    have O50 := O50.app e191 (N48_50).symm
                    have N50_48 := N50_48_
                    have hsz48_ := hS52.size
                    have hS52 := hS52.app e191 (fun g h_ => (Or.inl (LB48 g h_)))
                    have LB48 := e191.low LB48 hsz48_
                    have hB := eapp hB e191 O48
                    have O48 := P48
                    refine ⟨sameBut_chg hS52, ?_⟩
                    refine stBlk O47 (o := 0) (cs' := #[(.slice A188 (((([] : List D.Ins) ++ xs0)).length) c189), (.slice none 0 0), (.slice (some (⟨g183, 0, none⟩ : Addr)) ((32 : Int).toNat) ((32 : Int).toNat)), (.int .i64 0), (.int .i64 0)]) rfl rfl (Nat.le_of_ble_eq_true rfl) rfl (fun w193 P47 e194 => ?_)
                    have O2_ := O2.chg e194 N2_47
                    have O48_ := O48.chg e194 N48_47
                    have O50_ := O50.chg e194 N50_47
                    have O2 := O2_
                    have O48 := O48_
                    have O50 := O50_
                    have hB := echg hB e194 L47
                    have O47 := P47
                    exact ⟨(([] : List D.Ins) ++ xs0), [], (List.replicate ((32 : Int).toNat) (default : Int)), 0, 0, g47_, A188, c189, none, 0, (fun _ => False), (some (⟨g183, 0, none⟩ : Addr)), ((32 : Int).toNat), rfl, H, hB, O47, L47, O48, OwnW.nil, O50, O2, N2_47, nilW_dis⟩
                  · exact trivial
              · refine And.intro ?_ ?_
                · have H := H.2.1
                  obtain ⟨⟨h0_198, h1_199⟩, H⟩ := H
                  refine makeOwn slt25 h0_198 h1_199 (fun g195 w196 P51 e197 => ?_)
                  have N51_2 := P51.apart_old O2.lt
                  have N51_47 := P51.apart_old O47.lt
                  have O2 := O2.ext e197
                  have O47 := O47.ext e197
                  have LB51 := (P51.mono hS52.size).low
                  have O51 := P51.mono hB.size
                  have hB := ethen hB e197
                  have hS52 := hS52.then e197
                  refine ⟨sameBut_chg hS52, ?_⟩
                  refine buildOwn el99 ([] : List D.Ins) (fun _ => by kernel_rfl) rfl (fun A200 w201 P52 e202 => ?_)
                  have N52_2 := P52.apart_old O2.lt
                  have N52_47 := P52.apart_old O47.lt
                  have N51_52 := Own.apart2_new O51 P52 (Nat.le_refl _)
                  have O2 := O2.ext e202
                  have O47 := O47.ext e202
                  have O51 := O51.ext e202
                  have LB52 := (P52.mono hS52.size).low
                  have O52 := P52.mono hB.size
                  have hB := ethen hB e202
                  have hS52 := hS52.then e202
                  refine ⟨sameBut_chg hS52, ?_⟩
                  obtain ⟨hl207, H⟩ := H
                  refine appOwn slt24 slt24.under O52 (R0.ext hB) hB.size (by first | rfl | omega | (simp; done) | (simp; omega)) rfl hl207 (fun A203 c204 w205 P52 e206 => ?_)
                  have N52_2_ := Apart.app N52_2 e206 O2.lt
                  have O2 := O2.app e206 N52_2
                  have N52_2 := N52_2_
                  have N52_47_ := Apart.app N52_47 e206 O47.lt
                  have O47 := O47.app e206 N52_47
                  have N52_47 := N52_47_
                  have N51_52_ := Apart2.app N51_52 e206 O51
                  have O51 := O51.app e206 N51_52
                  have N51_52 := N51_52_
                  have hsz52_ := hS52.size
                  have hS52 := hS52.app e206 (fun g h_ => (Or.inl (LB52 g h_)))
                  have LB52 := e206.low LB52 hsz52_
                  have hB := eapp hB e206 O52
                  have O52 := P52
                  refine ⟨sameBut_chg hS52, ?_⟩
                  refine stBlk O47 (o := 0) (cs' := #[(.slice A203 (((([] : List D.Ins) ++ xs0)).length) c204), (.slice none 0 0), (.slice (some (⟨g195, 0, none⟩ : Addr)) ((32 : Int).toNat) ((32 : Int).toNat)), (.int .i64 0), (.int .i64 0)]) rfl rfl (Nat.le_of_ble_eq_true rfl) rfl (fun w208 P47 e209 => ?_)
                  have O2_ := O2.chg e209 N2_47
                  have O51_ := O51.chg e209 N51_47
                  have O52_ := O52.chg e209 N52_47
                  have O2 := O2_
                  have O51 := O51_
                  have O52 := O52_
                  have hB := echg hB e209 L47
                  have O47 := P47
                  exact ⟨(([] : List D.Ins) ++ xs0), [], (List.replicate ((32 : Int).toNat) (default : Int)), 0, 0, g47_, A203, c204, none, 0, (fun _ => False), (some (⟨g195, 0, none⟩ : Addr)), ((32 : Int).toNat), rfl, H, hB, O47, L47, O52, OwnW.nil, O51, O2, N2_47, nilW_dis⟩
                · exact trivial
            · exact trivial
      · rintro _ w50 ⟨xs37, xs41, xs44, i47, i48, g26_, A38, c39, A42, c43, F40, A45, c46, rfl, H, hB, O26, L26, O27, O28, O29, O2, N2_26, N28_29⟩
        have H := hKK334 _ H
        dsimp only at H ⊢
        obtain ⟨J291, ⟨m331, hJ330⟩, hS292⟩ := H
        refine ⟨fun m_ z_ w_ => ∃ (i283 : Int) (xs285 : List D.Warp) (i288 : Int) (i289 : Int) (A286 : Option Addr) (c287 : Nat) (F284 : Nat → Prop), z_ = (i283, ()) ∧ J291 m_ (i283, xs285, i288, i289, ()) ∧ Ext w w_ ∧ Blk w_ g26_ 48 #[(.slice A38 xs37.length c39), (.slice A286 xs285.length c287), (.slice A45 xs44.length c46), (.int .i64 i288), (.int .i64 i289)] ∧ OwnW 96 el134 el3 w_ w.heap.size F284 A286 c287 xs285 ∧ Blk w_ g2_ 48 #[(.slice none 0 0), (.slice none 0 0), (.slice none 0 0), (.int .i64 0), (.int .i64 0)] ∧ Own el99 w_ w.heap.size A38 c39 xs37 ∧ Own el3 w_ w.heap.size A45 c46 xs44 ∧ Dis (InW A286 F284) (InB A45), ⟨m331, 0, xs41, i47, i48, A42, c43, F40, rfl, hJ330, hB, O26, O28, O2, O27, O29, N28_29⟩, ?_⟩
        rintro m290 _ w294 ⟨i283, xs285, i288, i289, A286, c287, F284, rfl, hJ332, hB, O26, O61, O2, O27, O29, N61_29⟩
        have H := hS292 m290 _ hJ332
        clear hS292 hJ332
        dsimp only at H ⊢
        refine bcase_mk (fun hc328 => ?_) (fun hc328 => ?_)
        · have H := (bcase_iff.1 H).1 hc328
          obtain ⟨hp297, H⟩ := H
          obtain ⟨r295, hr296⟩ : ∃ r_, r_ = M.spec_WarpNew xs0 i283 := ⟨_, rfl⟩
          have H := H r295 hr296
          refine (spec_WarpNew.con hp297 hr296 (R0.ext hB) hc0).mono ?_
          rintro _ w298 ⟨A300, c301, A302, c303, rfl, P62, P63, e299⟩
          have N62_2 := P62.apart_old O2.lt
          have N62_26 := P62.apart_old O26.lt
          have N27_62 := Own.apart2_new O27 P62 (Nat.le_refl _)
          have N29_62 := Own.apart2_new O29 P62 (Nat.le_refl _)
          have N61_62 := O61.dis_new P62 (Nat.le_refl _)
          have N63_2 := P63.apart_old O2.lt
          have N63_26 := P63.apart_old O26.lt
          have N27_63 := Own.apart2_new O27 P63 (Nat.le_refl _)
          have N29_63 := Own.apart2_new O29 P63 (Nat.le_refl _)
          have N61_63 := O61.dis_new P63 (Nat.le_refl _)
          have O2 := O2.ext e299
          have O26 := O26.ext e299
          have O27 := O27.ext e299
          have O29 := O29.ext e299
          have O61 := O61.ext e299
          have O62 := P62.mono hB.size
          have O63 := P63.mono hB.size
          have hB := ethen hB e299
          refine ⟨(.agg #[(.int .i64 r295.1.Number), (.slice A300 r295.1.Frames.length c301), (.slice A302 r295.1.Regs.length c303)]), ?_⟩
          refine ⟨r295.1.Number, trivial, ?_⟩
          refine ⟨A300, r295.1.Frames.length, c301, trivial, ?_⟩
          refine ⟨A302, r295.1.Regs.length, c303, trivial, ?_⟩
          refine ⟨rfl, ?_⟩
          refine ⟨(.bool r295.2), ?_⟩
          refine ⟨r295.2, rfl, ?_⟩
          refine ⟨rfl, ?_⟩
          refine newBlk (fun g64_ w304 L64 P64 e305 => ?_)
          have N2_64 := O2.ne L64
          have N26_64 := O26.ne L64
          have N27_64 := O27.apart_new L64
          have N29_64 := O29.apart_new L64
          have N61_64 := O61.dis_newbox L64
          have N62_64 := O62.apart_new L64
          have N63_64 := O63.apart_new L64
          have O2 := O2.ext e305
          have O26 := O26.ext e305
          have O27 := O27.ext e305
          have O29 := O29.ext e305
          have O61 := O61.ext e305
          have O62 := O62.ext e305
          have O63 := O63.ext e305
          have O64 := P64
          have L64 := Nat.le_trans hB.size L64
          have hB := ethen hB e305
          refine stBlk O64 (o := 0) (cs' := #[(.int .i64 r295.1.Number), (.slice A300 r295.1.Frames.length c301), (.slice A302 r295.1.Regs.length c303)]) rfl rfl (Nat.le_of_ble_eq_true rfl) rfl (fun w306 P64 e307 => ?_)
          have O2_ := O2.chg e307 N2_64
          have O26_ := O26.chg e307 N26_64
          have O27_ := O27.chg e307 N27_64
          have O29_ := O29.chg e307 N29_64
          have O61_ := O61.chg e307 N61_64
          have O62_ := O62.chg e307 N62_64
          have O63_ := O63.chg e307 N63_64
          have O2 := O2_
          have O26 := O26_
          have O27 := O27_
          have O29 := O29_
          have O61 := O61_
          have O62 := O62_
          have O63 := O63_
          have hB := echg hB e307 L64
          have O64 := P64
          refine ⟨_, _, _, (O26.at 1 rfl rfl), ?_⟩
          refine ⟨_, (O64.at 0 rfl rfl), ?_⟩
          refine ⟨_, _, _, (O64.at 1 rfl rfl), ?_⟩
          refine ⟨_, _, _, (O64.at 2 rfl rfl), ?_⟩
          refine buildOwn (elH 96) ([⟨r295.1, A300, c301, A302, c303⟩] : List HW) (fun _ => by kernel_rfl) rfl (fun A308 w309 P65 e310 => ?_)
          have Q65 : OwnW 96 el134 el3 _ _ _ _ _ _ := OwnW.one (P65.mono hB.size) (O62.ext e310) (O63.ext e310)
          have N65_29 : Dis (InW A308 (fun g => InB A300 g ∨ InB A302 g)) (InB A45) := fun g h_ hx_ => h_.elim (fun h_ => (Own.apart2_new O29 P65 (Nat.le_refl _)).inb g hx_ h_) (fun h_ => h_.elim (fun h_ => ((N29_62).symm).inb g h_ hx_) (fun h_ => ((N29_63).symm).inb g h_ hx_))
          have N65_61 : Dis (InW A308 (fun g => InB A300 g ∨ InB A302 g)) (InW A286 F284) := fun g h_ hx_ => h_.elim (fun h_ => O61.dis_new P65 (Nat.le_refl _) g hx_ h_) (fun h_ => h_.elim (fun h_ => N61_62 g hx_ h_) (fun h_ => N61_63 g hx_ h_))
          have N65_64 : ¬ InW A308 (fun g => InB A300 g ∨ InB A302 g) g64_ := fun h_ => h_.elim (fun h_ => P65.apart_old O64.lt |>.inb h_) (fun h_ => h_.elim (N62_64).inb (N63_64).inb)
          have O2 := O2.ext e310
          have O26 := O26.ext e310
          have O27 := O27.ext e310
          have O29 := O29.ext e310
          have O61 := O61.ext e310
          have O64 := O64.ext e310
          have O65 := Q65
          have hB := ethen hB e310
          obtain ⟨hl320, H⟩ := H
          refine appOwnW slt46 slt46.under O61 O65 (N65_61).symm (by decide) (by decide) hB.size rfl (by first | rfl | omega | (simp; done) | (simp; omega)) hl320 (fun A316 c317 w318 P61 e319 => ?_)
          have O2 := O2.app e319 (fun a_ ha_ hb_ => (OwnW.dis_blk O61 O2 (by decide) (by decide) (by decide)) (Or.inl ⟨a_, ha_, hb_⟩))
          have O26 := O26.app e319 (fun a_ ha_ hb_ => (OwnW.dis_blk O61 O26 (by decide) (by decide) (by decide)) (Or.inl ⟨a_, ha_, hb_⟩))
          have O27 := O27.app e319 (fun a_ b_ ha_ hb_ hab_ => (OwnW.dis_type O61 O27 (by decide) (by decide) (by decide)) _ (Or.inl ⟨b_, hb_, rfl⟩) ⟨a_, ha_, hab_⟩)
          have N61_29_ := dis_app N61_29 N65_29 e319 O29
          have O29 := O29.app e319 (fun a_ b_ ha_ hb_ hab_ => N61_29 _ (Or.inl ⟨b_, hb_, rfl⟩) ⟨a_, ha_, hab_⟩)
          have N61_29 := N61_29_
          have N61_64_ := disb_app N61_64 N65_64 e319 O64
          have O64 := O64.app e319 (fun a_ ha_ hb_ => N61_64 (Or.inl ⟨a_, ha_, hb_⟩))
          have N61_64 := N61_64_
          have hB := eappW hB e319 O61
          have O61 := P61
          refine stBlk O26 (o := 1) (cs' := #[(.slice A38 xs37.length c39), (.slice A316 (((xs285 ++ ([r295.1] : List D.Warp))).length) c317), (.slice A45 xs44.length c46), (.int .i64 i288), (.int .i64 i289)]) rfl rfl (Nat.le_of_ble_eq_true rfl) rfl (fun w321 P26 e322 => ?_)
          have O2_ := O2.chg e322 N2_26
          have O27_ := O27.chg e322 (O27.apart_type O26 (by decide))
          have O29_ := O29.chg e322 (O29.apart_type O26 (by decide))
          have O61_ := O61.chg e322 (OwnW.dis_blk O61 O26 (by decide) (by decide) (by decide))
          have O64_ := O64.chg e322 (N26_64).symm
          have O2 := O2_
          have O27 := O27_
          have O29 := O29_
          have O61 := O61_
          have O64 := O64_
          have hB := echg hB e322 L26
          have O26 := P26
          obtain ⟨m323, hm324, hJ325⟩ := H
          exact ⟨m323, hm324, (IntKind.wrap .i64 (i283 + 1)), (xs285 ++ ([r295.1] : List D.Warp)), i288, i289, A316, c317, (fun g => F284 g ∨ (fun g => InB A300 g ∨ InB A302 g) g), rfl, hJ325, hB, O26, O61, O2, O27, O29, N61_29⟩
        · have H := (bcase_iff.1 H).2 hc328
          refine ⟨_, _, _, (O26.at 0 rfl rfl), ?_⟩
          refine ⟨_, _, _, (O26.at 1 rfl rfl), ?_⟩
          refine ⟨_, _, _, (O26.at 2 rfl rfl), ?_⟩
          refine ⟨_, (O26.at 3 rfl rfl), ?_⟩
          refine ⟨_, (O26.at 4 rfl rfl), ?_⟩
          refine stBlk O2 (o := 0) (cs' := #[(.slice A38 xs37.length c39), (.slice A286 xs285.length c287), (.slice A45 xs44.length c46), (.int .i64 i288), (.int .i64 i289)]) rfl rfl (Nat.le_of_ble_eq_true rfl) rfl (fun w326 P2 e327 => ?_)
          have O26_ := O26.chg e327 (N2_26).symm
          have O27_ := O27.chg e327 (O27.apart_type O2 (by decide))
          have O29_ := O29.chg e327 (O29.apart_type O2 (by decide))
          have O61_ := O61.chg e327 (OwnW.dis_blk O61 O2 (by decide) (by decide) (by decide))
          have O26 := O26_
          have O27 := O27_
          have O29 := O29_
          have O61 := O61_
          have hB := echg hB e327 L2
          have O2 := P2
          refine ⟨_, _, _, (O2.at 0 rfl rfl), ?_⟩
          refine ⟨_, _, _, (O2.at 1 rfl rfl), ?_⟩
          refine ⟨_, _, _, (O2.at 2 rfl rfl), ?_⟩
          refine ⟨_, (O2.at 3 rfl rfl), ?_⟩
          refine ⟨_, (O2.at 4 rfl rfl), ?_⟩
          obtain rfl := hr.trans H.symm
          exact ⟨A38, c39, A286, c287, F284, A45, c46, rfl, O27, O61, O29, N61_29, hB⟩

def slices_Clone_impl_Ins_impl_Ins.vc (A0 : Option Addr) (n0 : Nat) (c0 : Nat) (w : World) (K : Value → World → Prop) : Prop :=
  bcase (Option.isNone A0) (K (.slice none 0 0) w) (Run Try.prog (Instr.buildSlice 24 0 #[]) w fun v21 w22 => ∃ (A23 : Option Addr) (n24 c25 : Nat), v21 = .slice A23 n24 c25 ∧ Run Try.prog (Builtin.append_ #[24, 24] 24 #[(.slice A23 n24 c25), (.slice A0 n0 c0)]) w22 fun v26 w27 => ∃ (A28 : Option Addr) (n29 c30 : Nat), v26 = .slice A28 n29 c30 ∧ K (.slice A28 n29 c30) w27)

def slices_Clone_impl_Ins_impl_Ins.ann : Ann := (.seq .l (.seq (.seq .l (.two (.seq .l .l) .l)) (.seq .l .l)))

theorem slices_Clone_impl_Ins_impl_Ins.vc_eq (A0 : Option Addr) (n0 : Nat) (c0 : Nat) (w : World) (K : Value → World → Prop) : vcF Try.prog Try.f123 slices_Clone_impl_Ins_impl_Ins.ann [(.slice A0 n0 c0)] K w = slices_Clone_impl_Ins_impl_Ins.vc A0 n0 c0 w K := by kernel_rfl

theorem slices_Clone_impl_Ins_impl_Ins.start {A0 : Option Addr} {n0 : Nat} {c0 : Nat} {w : World} {K : Value → World → Prop} (h : slices_Clone_impl_Ins_impl_Ins.vc A0 n0 c0 w K) : Cll Try.prog 123 #[(.slice A0 n0 c0)] w K :=
  vcF_sound mixed (fn := Try.f123) (by kernel_rfl) (by kernel_rfl) (an := slices_Clone_impl_Ins_impl_Ins.ann) (args := [(.slice A0 n0 c0)]) (by rw [slices_Clone_impl_Ins_impl_Ins.vc_eq]; exact h)

theorem slices_Clone_impl_Ins_impl_Ins.con {xs0 : List D.Ins} {A0 : Option Addr} {c0 : Nat} {r : List D.Ins} {w : World} (hp : M.slices_Clone_impl_Ins_impl_Ins_pre xs0) (hr : r = M.slices_Clone_impl_Ins_impl_Ins xs0) (R0 : Row el99 w A0 xs0) (hc0 : xs0.length ≤ c0) :
    Cll Try.prog 123 #[(.slice A0 xs0.length c0)] w (fun v_ w_ => ∃ (A0_ : Option Addr) (c0_ : Nat), v_ = (.slice A0_ r.length c0_) ∧ Own el99 w_ w.heap.size A0_ c0_ r ∧ Ext w w_) := by
  have H := wp.slices_Clone_impl_Ins_impl_Ins.math xs0 hp
  have hB := Ext.refl w
  refine slices_Clone_impl_Ins_impl_Ins.start ?_
  unfold slices_Clone_impl_Ins_impl_Ins.vc
  unfold wp.slices_Clone_impl_Ins_impl_Ins at H
  obtain ⟨b21, hb22⟩ : ∃ b_, b_ = Option.isNone A0 := ⟨_, rfl⟩
  have H := H b21 (fun h_ => Row.isNone (R0.ext hB) (hb22.symm.trans h_))
  rw [← hb22]
  refine bcase_mk (fun hc31 => ?_) (fun hc31 => ?_)
  · have H := (bcase_iff.1 H).1 hc31
    obtain rfl := hr.trans H.symm
    exact ⟨none, 0, rfl, Own.nil, hB⟩
  · have H := (bcase_iff.1 H).2 hc31
    refine buildOwn el99 ([] : List D.Ins) (fun _ => by kernel_rfl) rfl (fun A23 w24 P2 e25 => ?_)
    have O2 := P2.mono hB.size
    have hB := ethen hB e25
    obtain ⟨hl30, H⟩ := H
    refine appOwn slt24 slt24.under O2 (R0.ext hB) hB.size (by first | rfl | omega | (simp; done) | (simp; omega)) rfl hl30 (fun A26 c27 w28 P2 e29 => ?_)
    have hB := eapp hB e29 O2
    have O2 := P2
    obtain rfl := hr.trans H.symm
    exact ⟨A26, c27, rfl, O2, hB⟩

def impl_newWarp.vc (A0 : Option Addr) (n0 : Nat) (c0 : Nat) (x1 : Int) (w : World) (K : Value → World → Prop) : Prop :=
  newK w (.cells #[(.int .i64 0), (.slice none 0 0), (.slice none 0 0)] 96) fun g21 w22 => vcMake Try.prog 25 32 32 w22 fun g23 w24 => newK w24 (.cells #[(.int .i64 0), (.slice none 0 0), (.slice none 0 0)] 96) fun g25 w26 => stCells (⟨g25, 0, none⟩ : Addr) [(.int .i64 x1), (.slice none 0 0), (.slice (some (⟨g23, 0, none⟩ : Addr)) ((32 : Int).toNat) ((32 : Int).toNat))] 0 w26 fun w27 => bcase (decide (((n0 : Nat) : Int) > 0)) (Run Try.prog (Instr.buildSlice 94 1 #[(0, (.agg #[(.int .i64 0), (.int .i64 ((n0 : Nat) : Int)), (.int .i64 255)]))]) w27 fun v28 w29 => ∃ (A30 : Option Addr) (n31 c32 : Nat), v28 = .slice A30 n31 c32 ∧ stCells ((⟨g25, 0, none⟩ : Addr).add 1) [(.slice A30 n31 c32)] 0 w29 fun w33 => ∃ (n34 : Int), w33.cell? ((⟨g25, 0, none⟩ : Addr).add 0) = some (.int .i64 n34) ∧ ∃ (A35 : Option Addr) (n36 : Nat) (c37 : Nat), w33.cell? ((⟨g25, 0, none⟩ : Addr).add 1) = some (.slice A35 n36 c37) ∧ ∃ (A38 : Option Addr) (n39 : Nat) (c40 : Nat), w33.cell? ((⟨g25, 0, none⟩ : Addr).add 2) = some (.slice A38 n39 c40) ∧ stCells (⟨g21, 0, none⟩ : Addr) [(.int .i64 n34), (.slice A35 n36 c37), (.slice A38 n39 c40)] 0 w33 fun w41 => ∃ (n42 : Int), w41.cell? ((⟨g21, 0, none⟩ : Addr).add 0) = some (.int .i64 n42) ∧ ∃ (A43 : Option Addr) (n44 : Nat) (c45 : Nat), w41.cell? ((⟨g21, 0, none⟩ : Addr).add 1) = some (.slice A43 n44 c45) ∧ ∃ (A46 : Option Addr) (n47 : Nat) (c48 : Nat), w41.cell? ((⟨g21, 0, none⟩ : Addr).add 2) = some (.slice A46 n47 c48) ∧ K (.agg #[(.int .i64 n42), (.slice A43 n44 c45), (.slice A46 n47 c48)]) w41) (∃ (n49 : Int), w27.cell? ((⟨g25, 0, none⟩ : Addr).add 0) = some (.int .i64 n49) ∧ ∃ (A50 : Option Addr) (n51 : Nat) (c52 : Nat), w27.cell? ((⟨g25, 0, none⟩ : Addr).add 1) = some (.slice A50 n51 c52) ∧ ∃ (A53 : Option Addr) (n54 : Nat) (c55 : Nat), w27.cell? ((⟨g25, 0, none⟩ : Addr).add 2) = some (.slice A53 n54 c55) ∧ stCells (⟨g21, 0, none⟩ : Addr) [(.int .i64 n49), (.slice A50 n51 c52), (.slice A53 n54 c55)] 0 w27 fun w56 => ∃ (n57 : Int), w56.cell? ((⟨g21, 0, none⟩ : Addr).add 0) = some (.int .i64 n57) ∧ ∃ (A58 : Option Addr) (n59 : Nat) (c60 : Nat), w56.cell? ((⟨g21, 0, none⟩ : Addr).add 1) = some (.slice A58 n59 c60) ∧ ∃ (A61 : Option Addr) (n62 : Nat) (c63 : Nat), w56.cell? ((⟨g21, 0, none⟩ : Addr).add 2) = some (.slice A61 n62 c63) ∧ K (.agg #[(.int .i64 n57), (.slice A58 n59 c60), (.slice A61 n62 c63)]) w56)

def impl_newWarp.ann : Ann := (.seq .l (.seq .l (.seq (.seq .l (.two .l .l)) (.seq .l .l))))

theorem impl_newWarp.vc_eq (A0 : Option Addr) (n0 : Nat) (c0 : Nat) (x1 : Int) (w : World) (K : Value → World → Prop) : vcF Try.prog Try.f124 impl_newWarp.ann [(.slice A0 n0 c0), (.int .i64 x1)] K w = impl_newWarp.vc A0 n0 c0 x1 w K := by kernel_rfl

theorem impl_newWarp.start {A0 : Option Addr} {n0 : Nat} {c0 : Nat} {x1 : Int} {w : World} {K : Value → World → Prop} (h : impl_newWarp.vc A0 n0 c0 x1 w K) : Cll Try.prog 124 #[(.slice A0 n0 c0), (.int .i64 x1)] w K :=
  vcF_sound mixed (fn := Try.f124) (by kernel_rfl) (by kernel_rfl) (an := impl_newWarp.ann) (args := [(.slice A0 n0 c0), (.int .i64 x1)]) (by rw [impl_newWarp.vc_eq]; exact h)

theorem impl_newWarp.con {xs0 : List D.Ins} {A0 : Option Addr} {c0 : Nat} {x1 : Int} {r : D.Warp} {w : World} (hp : M.impl_newWarp_pre xs0 x1) (hr : r = M.impl_newWarp xs0 x1) (R0 : Row el99 w A0 xs0) (hc0 : xs0.length ≤ c0) :
    Cll Try.prog 124 #[(.slice A0 xs0.length c0), (.int .i64 x1)] w (fun v_ w_ => ∃ (A0_ : Option Addr) (c0_ : Nat) (A1_ : Option Addr) (c1_ : Nat), v_ = (.agg #[(.int .i64 r.Number), (.slice A0_ r.Frames.length c0_), (.slice A1_ r.Regs.length c1_)]) ∧ Own el134 w_ w.heap.size A0_ c0_ r.Frames ∧ Own el3 w_ w.heap.size A1_ c1_ r.Regs ∧ Ext w w_) := by
  have H := wp.impl_newWarp.math xs0 x1 hp
  have hB := Ext.refl w
  refine impl_newWarp.start ?_
  unfold impl_newWarp.vc
  unfold wp.impl_newWarp at H
  refine newBlk (fun g2_ w21 L2 P2 e22 => ?_)
  have O2 := P2
  have L2 := Nat.le_trans hB.size L2
  have hB := ethen hB e22
  obtain ⟨⟨h0_26, h1_27⟩, H⟩ := H
  refine makeOwn slt25 h0_26 h1_27 (fun g23 w24 P3 e25 => ?_)
  have N3_2 := P3.apart_old O2.lt
  have O2 := O2.ext e25
  have O3 := P3.mono hB.size
  have hB := ethen hB e25
  refine newBlk (fun g4_ w28 L4 P4 e29 => ?_)
  have N2_4 := O2.ne L4
  have N3_4 := O3.apart_new L4
  have O2 := O2.ext e29
  have O3 := O3.ext e29
  have O4 := P4
  have L4 := Nat.le_trans hB.size L4
  have hB := ethen hB e29
  refine stBlk O4 (o := 0) (cs' := #[(.int .i64 x1), (.slice none 0 0), (.slice (some (⟨g23, 0, none⟩ : Addr)) ((32 : Int).toNat) ((32 : Int).toNat))]) rfl rfl (Nat.le_of_ble_eq_true rfl) rfl (fun w30 P4 e31 => ?_)
  have O2_ := O2.chg e31 N2_4
  have O3_ := O3.chg e31 N3_4
  have O2 := O2_
  have O3 := O3_
  have hB := echg hB e31 L4
  have O4 := P4
  refine bcase_mk (fun hc41 => ?_) (fun hc41 => ?_)
  · have H := (bcase_iff.1 H).1 hc41
    refine buildOwn el134 ([(⟨0, ((xs0.length : Nat) : Int), 255⟩ : D.Frame)] : List D.Frame) (fun _ => by kernel_rfl) rfl (fun A32 w33 P5 e34 => ?_)
    have N5_2 := P5.apart_old O2.lt
    have N3_5 := Own.apart2_new O3 P5 (Nat.le_refl _)
    have N5_4 := P5.apart_old O4.lt
    have O2 := O2.ext e34
    have O3 := O3.ext e34
    have O4 := O4.ext e34
    have O5 := P5.mono hB.size
    have hB := ethen hB e34
    refine stBlk O4 (o := 1) (cs' := #[(.int .i64 x1), (.slice A32 1 1), (.slice (some (⟨g23, 0, none⟩ : Addr)) ((32 : Int).toNat) ((32 : Int).toNat))]) rfl rfl (Nat.le_of_ble_eq_true rfl) rfl (fun w35 P4 e36 => ?_)
    have O2_ := O2.chg e36 N2_4
    have O3_ := O3.chg e36 N3_4
    have O5_ := O5.chg e36 N5_4
    have O2 := O2_
    have O3 := O3_
    have O5 := O5_
    have hB := echg hB e36 L4
    have O4 := P4
    refine ⟨_, (O4.at 0 rfl rfl), ?_⟩
    refine ⟨_, _, _, (O4.at 1 rfl rfl), ?_⟩
    refine ⟨_, _, _, (O4.at 2 rfl rfl), ?_⟩
    refine stBlk O2 (o := 0) (cs' := #[(.int .i64 x1), (.slice A32 1 1), (.slice (some (⟨g23, 0, none⟩ : Addr)) ((32 : Int).toNat) ((32 : Int).toNat))]) rfl rfl (Nat.le_of_ble_eq_true rfl) rfl (fun w37 P2 e38 => ?_)
    have O3_ := O3.chg e38 N3_2
    have O4_ := O4.chg e38 (N2_4).symm
    have O5_ := O5.chg e38 N5_2
    have O3 := O3_
    have O4 := O4_
    have O5 := O5_
    have hB := echg hB e38 L2
    have O2 := P2
    refine ⟨_, (O2.at 0 rfl rfl), ?_⟩
    refine ⟨_, _, _, (O2.at 1 rfl rfl), ?_⟩
    refine ⟨_, _, _, (O2.at 2 rfl rfl), ?_⟩
    obtain rfl := hr.trans H.symm
    exact ⟨A32, 1, (some (⟨g23, 0, none⟩ : Addr)), ((32 : Int).toNat), (by first | rfl | (simp; done) | (simp; omega) | (simp [*]; done)), (by first | exact O5 | (simp only [List.length_set]; exact O5)), (by first | exact O3 | (simp only [List.length_set]; exact O3)), hB⟩
  · have H := (bcase_iff.1 H).2 hc41
    refine ⟨_, (O4.at 0 rfl rfl), ?_⟩
    refine ⟨_, _, _, (O4.at 1 rfl rfl), ?_⟩
    refine ⟨_, _, _, (O4.at 2 rfl rfl), ?_⟩
    refine stBlk O2 (o := 0) (cs' := #[(.int .i64 x1), (.slice none 0 0), (.slice (some (⟨g23, 0, none⟩ : Addr)) ((32 : Int).toNat) ((32 : Int).toNat))]) rfl rfl (Nat.le_of_ble_eq_true rfl) rfl (fun w39 P2 e40 => ?_)
    have O3_ := O3.chg e40 N3_2
    have O4_ := O4.chg e40 (N2_4).symm
    have O3 := O3_
    have O4 := O4_
    have hB := echg hB e40 L2
    have O2 := P2
    refine ⟨_, (O2.at 0 rfl rfl), ?_⟩
    refine ⟨_, _, _, (O2.at 1 rfl rfl), ?_⟩
    refine ⟨_, _, _, (O2.at 2 rfl rfl), ?_⟩
    obtain rfl := hr.trans H.symm
    exact ⟨none, 0, (some (⟨g23, 0, none⟩ : Addr)), ((32 : Int).toNat), (by first | rfl | (simp; done) | (simp; omega) | (simp [*]; done)), Own.nil, (by first | exact O3 | (simp only [List.length_set]; exact O3)), hB⟩

def impl_newBlock.vc (A0 : Option Addr) (n0 : Nat) (c0 : Nat) (x1 : Int) (w : World) (K : Value → World → Prop) : Prop :=
  newK w (.cells #[(.slice none 0 0), (.slice none 0 0), (.slice none 0 0), (.int .i64 0), (.int .i64 0)] 48) fun g21 w22 => JoinT (σ := Addr × Unit) (fun J23 => (∃ M24 : Nat → Prop, ((Cll Try.prog 123 #[(.slice A0 n0 c0)] w22.drew fun v25 w26 => (∃ (A27 : Option Addr) (n28 : Nat) (c29 : Nat), v25 = (.slice A27 n28 c29) ∧ SameBut M24 w22 w26 ∧ ((vcMake Try.prog 25 32 32 w26 fun g30 w31 => SameBut M24 w22 w31 ∧ newK w31 (.cells #[(.slice none 0 0), (.slice none 0 0), (.slice none 0 0), (.int .i64 0), (.int .i64 0)] 48) fun g32 w33 => SameBut M24 w22 w33 ∧ stCells (⟨g32, 0, none⟩ : Addr) [(.slice A27 n28 c29), (.slice none 0 0), (.slice (some (⟨g30, 0, none⟩ : Addr)) ((32 : Int).toNat) ((32 : Int).toNat)), (.int .i64 0), (.int .i64 0)] 0 w33 fun w34 => J23 ((⟨g32, 0, none⟩ : Addr), ()) w34) ∧ (newK w26 (.cells #[(.slice none 0 0), (.slice none 0 0), (.slice none 0 0), (.int .i64 0), (.int .i64 0)] 48) fun g35 w36 => SameBut M24 w22 w36 ∧ vcMake Try.prog 25 32 32 w36 fun g37 w38 => SameBut M24 w22 w38 ∧ stCells (⟨g35, 0, none⟩ : Addr) [(.slice A27 n28 c29), (.slice none 0 0), (.slice (some (⟨g37, 0, none⟩ : Addr)) ((32 : Int).toNat) ((32 : Int).toNat)), (.int .i64 0), (.int .i64 0)] 0 w38 fun w39 => J23 ((⟨g35, 0, none⟩ : Addr), ()) w39) ∧ True))) ∧ (vcMake Try.prog 25 32 32 w22.drew fun g40 w41 => SameBut M24 w22 w41 ∧ ((Cll Try.prog 123 #[(.slice A0 n0 c0)] w41 fun v42 w43 => (∃ (A44 : Option Addr) (n45 : Nat) (c46 : Nat), v42 = (.slice A44 n45 c46) ∧ SameBut M24 w22 w43 ∧ newK w43 (.cells #[(.slice none 0 0), (.slice none 0 0), (.slice none 0 0), (.int .i64 0), (.int .i64 0)] 48) fun g47 w48 => SameBut M24 w22 w48 ∧ stCells (⟨g47, 0, none⟩ : Addr) [(.slice A44 n45 c46), (.slice none 0 0), (.slice (some (⟨g40, 0, none⟩ : Addr)) ((32 : Int).toNat) ((32 : Int).toNat)), (.int .i64 0), (.int .i64 0)] 0 w48 fun w49 => J23 ((⟨g47, 0, none⟩ : Addr), ()) w49)) ∧ (newK w41 (.cells #[(.slice none 0 0), (.slice none 0 0), (.slice none 0 0), (.int .i64 0), (.int .i64 0)] 48) fun g50 w51 => SameBut M24 w22 w51 ∧ Cll Try.prog 123 #[(.slice A0 n0 c0)] w51 fun v52 w53 => (∃ (A54 : Option Addr) (n55 : Nat) (c56 : Nat), v52 = (.slice A54 n55 c56) ∧ SameBut M24 w22 w53 ∧ stCells (⟨g50, 0, none⟩ : Addr) [(.slice A54 n55 c56), (.slice none 0 0), (.slice (some (⟨g40, 0, none⟩ : Addr)) ((32 : Int).toNat) ((32 : Int).toNat)), (.int .i64 0), (.int .i64 0)] 0 w53 fun w57 => J23 ((⟨g50, 0, none⟩ : Addr), ()) w57)) ∧ True)) ∧ (newK w22.drew (.cells #[(.slice none 0 0), (.slice none 0 0), (.slice none 0 0), (.int .i64 0), (.int .i64 0)] 48) fun g58 w59 => SameBut M24 w22 w59 ∧ ((Cll Try.prog 123 #[(.slice A0 n0 c0)] w59 fun v60 w61 => (∃ (A62 : Option Addr) (n63 : Nat) (c64 : Nat), v60 = (.slice A62 n63 c64) ∧ SameBut M24 w22 w61 ∧ vcMake Try.prog 25 32 32 w61 fun g65 w66 => SameBut M24 w22 w66 ∧ stCells (⟨g58, 0, none⟩ : Addr) [(.slice A62 n63 c64), (.slice none 0 0), (.slice (some (⟨g65, 0, none⟩ : Addr)) ((32 : Int).toNat) ((32 : Int).toNat)), (.int .i64 0), (.int .i64 0)] 0 w66 fun w67 => J23 ((⟨g58, 0, none⟩ : Addr), ()) w67)) ∧ (vcMake Try.prog 25 32 32 w59 fun g68 w69 => SameBut M24 w22 w69 ∧ Cll Try.prog 123 #[(.slice A0 n0 c0)] w69 fun v70 w71 => (∃ (A72 : Option Addr) (n73 : Nat) (c74 : Nat), v70 = (.slice A72 n73 c74) ∧ SameBut M24 w22 w71 ∧ stCells (⟨g58, 0, none⟩ : Addr) [(.slice A72 n73 c74), (.slice none 0 0), (.slice (some (⟨g68, 0, none⟩ : Addr)) ((32 : Int).toNat) ((32 : Int).toNat)), (.int .i64 0), (.int .i64 0)] 0 w71 fun w75 => J23 ((⟨g58, 0, none⟩ : Addr), ()) w75)) ∧ True)) ∧ True))) fun z76 w77 => LoopT (σ := Int × Unit) (fun z78 w79 next80 => bcase (decide (z78.1 < x1)) ((∃ M81 : Nat → Prop, ∃ (A82 : Option Addr) (n83 : Nat) (c84 : Nat), (¬ M81 ((z76.1.add 1)).block ∧ w79.cell? ((z76.1.add 1).add 0) = some (.slice A82 n83 c84)) ∧ Cll Try.prog 124 #[(.slice A0 n0 c0), (.int .i64 z78.1)] w79.drew fun v85 w86 => (∃ (n87 : Int), True ∧ ∃ (A88 : Option Addr) (n89 : Nat) (c90 : Nat), True ∧ ∃ (A91 : Option Addr) (n92 : Nat) (c93 : Nat), True ∧ v85 = (.agg #[(.int .i64 n87), (.slice A88 n89 c90), (.slice A91 n92 c93)]) ∧ SameBut M81 w79 w86 ∧ Run Try.prog (Instr.buildSlice 46 1 #[(0, (.agg #[(.int .i64 n87), (.slice A88 n89 c90), (.slice A91 n92 c93)]))]) w86 fun v94 w95 => ∃ (A96 : Option Addr) (n97 c98 : Nat), v94 = .slice A96 n97 c98 ∧ SameBut M81 w79 w95 ∧ Run Try.prog (Builtin.append_ #[46, 46] 46 #[(.slice A82 n83 c84), (.slice A96 n97 c98)]) w95 fun v99 w100 => ∃ (A101 : Option Addr) (n102 c103 : Nat), v99 = .slice A101 n102 c103 ∧ SameBut M81 w79 w100 ∧ stCells (z76.1.add 1) [(.slice A101 n102 c103)] 0 w100 fun w104 => next80 ((IntKind.wrap .i64 (z78.1 + 1)), ()) w104))) (∃ (A105 : Option Addr) (n106 : Nat) (c107 : Nat), w79.cell? (z76.1.add 0) = some (.slice A105 n106 c107) ∧ ∃ (A108 : Option Addr) (n109 : Nat) (c110 : Nat), w79.cell? (z76.1.add 1) = some (.slice A108 n109 c110) ∧ ∃ (A111 : Option Addr) (n112 : Nat) (c113 : Nat), w79.cell? (z76.1.add 2) = some (.slice A111 n112 c113) ∧ ∃ (n114 : Int), w79.cell? (z76.1.add 3) = some (.int .i64 n114) ∧ ∃ (n115 : Int), w79.cell? (z76.1.add 4) = some (.int .i64 n115) ∧ stCells (⟨g21, 0, none⟩ : Addr) [(.slice A105 n106 c107), (.slice A108 n109 c110), (.slice A111 n112 c113), (.int .i64 n114), (.int .i64 n115)] 0 w79 fun w116 => ∃ (A117 : Option Addr) (n118 : Nat) (c119 : Nat), w116.cell? ((⟨g21, 0, none⟩ : Addr).add 0) = some (.slice A117 n118 c119) ∧ ∃ (A120 : Option Addr) (n121 : Nat) (c122 : Nat), w116.cell? ((⟨g21, 0, none⟩ : Addr).add 1) = some (.slice A120 n121 c122) ∧ ∃ (A123 : Option Addr) (n124 : Nat) (c125 : Nat), w116.cell? ((⟨g21, 0, none⟩ : Addr).add 2) = some (.slice A123 n124 c125) ∧ ∃ (n126 : Int), w116.cell? ((⟨g21, 0, none⟩ : Addr).add 3) = some (.int .i64 n126) ∧ ∃ (n127 : Int), w116.cell? ((⟨g21, 0, none⟩ : Addr).add 4) = some (.int .i64 n127) ∧ K (.agg #[(.slice A117 n118 c119), (.slice A120 n121 c122), (.slice A123 n124 c125), (.int .i64 n126), (.int .i64 n127)]) w116)) (0, ()) w77

def impl_newBlock.ann : Ann := (.seq .l (.cut [(5, .ptr)] .l (.seq (.seq .l (.one (.loop [(12, .int .i64)] (.seq .l (.seq (.two .l .l) (.seq (.one (.seq .l .l)) .l)))))) (.seq .l .l))))

theorem impl_newBlock.vc_eq (A0 : Option Addr) (n0 : Nat) (c0 : Nat) (x1 : Int) (w : World) (K : Value → World → Prop) : vcF Try.prog Try.f73 impl_newBlock.ann [(.slice A0 n0 c0), (.int .i64 x1)] K w = impl_newBlock.vc A0 n0 c0 x1 w K := by kernel_rfl

theorem impl_newBlock.start {A0 : Option Addr} {n0 : Nat} {c0 : Nat} {x1 : Int} {w : World} {K : Value → World → Prop} (h : impl_newBlock.vc A0 n0 c0 x1 w K) : Cll Try.prog 73 #[(.slice A0 n0 c0), (.int .i64 x1)] w K :=
  vcF_sound mixed (fn := Try.f73) (by kernel_rfl) (by kernel_rfl) (an := impl_newBlock.ann) (args := [(.slice A0 n0 c0), (.int .i64 x1)]) (by rw [impl_newBlock.vc_eq]; exact h)

theorem impl_newBlock.con {xs0 : List D.Ins} {A0 : Option Addr} {c0 : Nat} {x1 : Int} {r : D.Block} {w : World} (hp : M.impl_newBlock_pre xs0 x1) (hr : r = M.impl_newBlock xs0 x1) (R0 : Row el99 w A0 xs0) (hc0 : xs0.length ≤ c0) :
    Cll Try.prog 73 #[(.slice A0 xs0.length c0), (.int .i64 x1)] w (fun v_ w_ => ∃ (A0_ : Option Addr) (c0_ : Nat) (A1_ : Option Addr) (c1_ : Nat) (F1_ : Nat → Prop) (A2_ : Option Addr) (c2_ : Nat), v_ = (.agg #[(.slice A0_ r.Code.length c0_), (.slice A1_ r.Warps.length c1_), (.slice A2_ r.Memory.length c2_), (.int .i64 r.Waiting), (.int .i64 r.Phase)]) ∧ Own el99 w_ w.heap.size A0_ c0_ r.Code ∧ OwnW 96 el134 el3 w_ w.heap.size F1_ A1_ c1_ r.Warps ∧ Own el3 w_ w.heap.size A2_ c2_ r.Memory ∧ Dis (InW A1_ F1_) (InB A2_) ∧ Ext w w_) := by
  have H := wp.impl_newBlock.math xs0 x1 hp
  have hB := Ext.refl w
  refine impl_newBlock.start ?_
  unfold impl_newBlock.vc
  unfold wp.impl_newBlock at H
  refine newBlk (fun g2_ w21 L2 P2 e22 => ?_)
  have O2 := P2
  have L2 := Nat.le_trans hB.size L2
  have hB := ethen hB e22
  obtain ⟨K302, hKK302, H⟩ := joinP_out H
  refine ⟨fun z_ w_ => ∃ (xs23 : List D.Ins) (xs27 : List D.Warp) (xs30 : List Int) (i33 : Int) (i34 : Int) (g18_ : Nat) (A24 : Option Addr) (c25 : Nat) (A28 : Option Addr) (c29 : Nat) (F26 : Nat → Prop) (A31 : Option Addr) (c32 : Nat), z_ = ((⟨g18_, 0, none⟩ : Addr), ()) ∧ K302 (xs23, xs27, xs30, i33, i34, ()) ∧ Ext w w_ ∧ Blk w_ g18_ 48 #[(.slice A24 xs23.length c25), (.slice A28 xs27.length c29), (.slice A31 xs30.length c32), (.int .i64 i33), (.int .i64 i34)] ∧ w.heap.size ≤ g18_ ∧ Own el99 w_ w.heap.size A24 c25 xs23 ∧ OwnW 96 el134 el3 w_ w.heap.size F26 A28 c29 xs27 ∧ Own el3 w_ w.heap.size A31 c32 xs30 ∧ Blk w_ g2_ 48 #[(.slice none 0 0), (.slice none 0 0), (.slice none 0 0), (.int .i64 0), (.int .i64 0)] ∧ g2_ ≠ g18_ ∧ Dis (InW A28 F26) (InB A31), ?_, ?_⟩
  · refine ⟨(fun _ => False), ?_⟩
    refine And.intro ?_ ?_
    · have H := H.1
      have hS38 := Chg.refl (fun _ => False) w21
      have O2 := O2.ext (Ext.drew _)
      have hB := ethen hB (Ext.drew _)
      have hS38 := hS38.then (Ext.drew _)
      obtain ⟨hp41, H⟩ := H
      obtain ⟨r39, hr40⟩ : ∃ r_, r_ = M.slices_Clone_impl_Ins_impl_Ins xs0 := ⟨_, rfl⟩
      have H := H r39 hr40
      refine (slices_Clone_impl_Ins_impl_Ins.con hp41 hr40 (R0.ext hB) hc0).mono ?_
      rintro _ w42 ⟨A44, c45, rfl, P22, e43⟩
      have N22_2 := P22.apart_old O2.lt
      have O2 := O2.ext e43
      have LB22 := (P22.mono hS38.size).low
      have O22 := P22.mono hB.size
      have hB := ethen hB e43
      have hS38 := hS38.then e43
      refine ⟨A44, r39.length, c45, rfl, ?_⟩
      refine ⟨sameBut_chg hS38, ?_⟩
      refine And.intro ?_ ?_
      · have H := H.1
        obtain ⟨⟨h0_49, h1_50⟩, H⟩ := H
        refine makeOwn slt25 h0_49 h1_50 (fun g46 w47 P23 e48 => ?_)
        have N23_2 := P23.apart_old O2.lt
        have N22_23 := Own.apart2_new O22 P23 (Nat.le_refl _)
        have O2 := O2.ext e48
        have O22 := O22.ext e48
        have LB23 := (P23.mono hS38.size).low
        have O23 := P23.mono hB.size
        have hB := ethen hB e48
        have hS38 := hS38.then e48
        refine ⟨sameBut_chg hS38, ?_⟩
        refine newBlk (fun g24_ w51 L24 P24 e52 => ?_)
        have N2_24 := O2.ne L24
        have N22_24 := O22.apart_new L24
        have N23_24 := O23.apart_new L24
        have O2 := O2.ext e52
        have O22 := O22.ext e52
        have O23 := O23.ext e52
        have O24 := P24
        have LB24 := Nat.le_trans hS38.size L24
        have L24 := Nat.le_trans hB.size L24
        have hB := ethen hB e52
        have hS38 := hS38.then e52
        refine ⟨sameBut_chg hS38, ?_⟩
        refine stBlk O24 (o := 0) (cs' := #[(.slice A44 r39.length c45), (.slice none 0 0), (.slice (some (⟨g46, 0, none⟩ : Addr)) ((32 : Int).toNat) ((32 : Int).toNat)), (.int .i64 0), (.int .i64 0)]) rfl rfl (Nat.le_of_ble_eq_true rfl) rfl (fun w53 P24 e54 => ?_)
        have O2_ := O2.chg e54 N2_24
        have O22_ := O22.chg e54 N22_24
        have O23_ := O23.chg e54 N23_24
        have O2 := O2_
        have O22 := O22_
        have O23 := O23_
        have hB := echg hB e54 L24
        have O24 := P24
        exact ⟨r39, [], (List.replicate ((32 : Int).toNat) (default : Int)), 0, 0, g24_, A44, c45, none, 0, (fun _ => False), (some (⟨g46, 0, none⟩ : Addr)), ((32 : Int).toNat), rfl, H, hB, O24, L24, O22, OwnW.nil, O23, O2, N2_24, nilW_dis⟩
      · refine And.intro ?_ ?_
        · have H := H.2.1
          refine newBlk (fun g25_ w55 L25 P25 e56 => ?_)
          have N2_25 := O2.ne L25
          have N22_25 := O22.apart_new L25
          have O2 := O2.ext e56
          have O22 := O22.ext e56
          have O25 := P25
          have LB25 := Nat.le_trans hS38.size L25
          have L25 := Nat.le_trans hB.size L25
          have hB := ethen hB e56
          have hS38 := hS38.then e56
          refine ⟨sameBut_chg hS38, ?_⟩
          obtain ⟨⟨h0_60, h1_61⟩, H⟩ := H
          refine makeOwn slt25 h0_60 h1_61 (fun g57 w58 P26 e59 => ?_)
          have N26_2 := P26.apart_old O2.lt
          have N22_26 := Own.apart2_new O22 P26 (Nat.le_refl _)
          have N26_25 := P26.apart_old O25.lt
          have O2 := O2.ext e59
          have O22 := O22.ext e59
          have O25 := O25.ext e59
          have LB26 := (P26.mono hS38.size).low
          have O26 := P26.mono hB.size
          have hB := ethen hB e59
          have hS38 := hS38.then e59
          refine ⟨sameBut_chg hS38, ?_⟩
          refine stBlk O25 (o := 0) (cs' := #[(.slice A44 r39.length c45), (.slice none 0 0), (.slice (some (⟨g57, 0, none⟩ : Addr)) ((32 : Int).toNat) ((32 : Int).toNat)), (.int .i64 0), (.int .i64 0)]) rfl rfl (Nat.le_of_ble_eq_true rfl) rfl (fun w62 P25 e63 => ?_)
          have O2_ := O2.chg e63 N2_25
          have O22_ := O22.chg e63 N22_25
          have O26_ := O26.chg e63 N26_25
          have O2 := O2_
          have O22 := O22_
          have O26 := O26_
          have hB := echg hB e63 L25
          have O25 := P25
          exact ⟨r39, [], (List.replicate ((32 : Int).toNat) (default : Int)), 0, 0, g25_, A44, c45, none, 0, (fun _ => False), (some (⟨g57, 0, none⟩ : Addr)), ((32 : Int).toNat), rfl, H, hB, O25, L25, O22, OwnW.nil, O26, O2, N2_25, nilW_dis⟩
        · exact trivial
    · refine And.intro ?_ ?_
      · have H := H.2.1
        have hS38 := Chg.refl (fun _ => False) w21
        have O2 := O2.ext (Ext.drew _)
        have hB := ethen hB (Ext.drew _)
        have hS38 := hS38.then (Ext.drew _)
        obtain ⟨⟨h0_67, h1_68⟩, H⟩ := H
        refine makeOwn slt25 h0_67 h1_68 (fun g64 w65 P27 e66 => ?_)
        have N27_2 := P27.apart_old O2.lt
        have O2 := O2.ext e66
        have LB27 := (P27.mono hS38.size).low
        have O27 := P27.mono hB.size
        have hB := ethen hB e66
        have hS38 := hS38.then e66
        refine ⟨sameBut_chg hS38, ?_⟩
        refine And.intro ?_ ?_
        · have H := H.1
          obtain ⟨hp71, H⟩ := H
          obtain ⟨r69, hr70⟩ : ∃ r_, r_ = M.slices_Clone_impl_Ins_impl_Ins xs0 := ⟨_, rfl⟩
          have H := H r69 hr70
          refine (slices_Clone_impl_Ins_impl_Ins.con hp71 hr70 (R0.ext hB) hc0).mono ?_
          rintro _ w72 ⟨A74, c75, rfl, P28, e73⟩
          have N28_2 := P28.apart_old O2.lt
          have N27_28 := Own.apart2_new O27 P28 (Nat.le_refl _)
          have O2 := O2.ext e73
          have O27 := O27.ext e73
          have LB28 := (P28.mono hS38.size).low
          have O28 := P28.mono hB.size
          have hB := ethen hB e73
          have hS38 := hS38.then e73
          refine ⟨A74, r69.length, c75, rfl, ?_⟩
          refine ⟨sameBut_chg hS38, ?_⟩
          refine newBlk (fun g29_ w76 L29 P29 e77 => ?_)
          have N2_29 := O2.ne L29
          have N27_29 := O27.apart_new L29
          have N28_29 := O28.apart_new L29
          have O2 := O2.ext e77
          have O27 := O27.ext e77
          have O28 := O28.ext e77
          have O29 := P29
          have LB29 := Nat.le_trans hS38.size L29
          have L29 := Nat.le_trans hB.size L29
          have hB := ethen hB e77
          have hS38 := hS38.then e77
          refine ⟨sameBut_chg hS38, ?_⟩
          refine stBlk O29 (o := 0) (cs' := #[(.slice A74 r69.length c75), (.slice none 0 0), (.slice (some (⟨g64, 0, none⟩ : Addr)) ((32 : Int).toNat) ((32 : Int).toNat)), (.int .i64 0), (.int .i64 0)]) rfl rfl (Nat.le_of_ble_eq_true rfl) rfl (fun w78 P29 e79 => ?_)
          have O2_ := O2.chg e79 N2_29
          have O27_ := O27.chg e79 N27_29
          have O28_ := O28.chg e79 N28_29
          have O2 := O2_
          have O27 := O27_
          have O28 := O28_
          have hB := echg hB e79 L29
          have O29 := P29
          exact ⟨r69, [], (List.replicate ((32 : Int).toNat) (default : Int)), 0, 0, g29_, A74, c75, none, 0, (fun _ => False), (some (⟨g64, 0, none⟩ : Addr)), ((32 : Int).toNat), rfl, H, hB, O29, L29, O28, OwnW.nil, O27, O2, N2_29, nilW_dis⟩
        · refine And.intro ?_ ?_
          · have H := H.2.1
            refine newBlk (fun g30_ w80 L30 P30 e81 => ?_)
            have N2_30 := O2.ne L30
            have N27_30 := O27.apart_new L30
            have O2 := O2.ext e81
            have O27 := O27.ext e81
            have O30 := P30
            have LB30 := Nat.le_trans hS38.size L30
            have L30 := Nat.le_trans hB.size L30
            have hB := ethen hB e81
            have hS38 := hS38.then e81
            refine ⟨sameBut_chg hS38, ?_⟩
            obtain ⟨hp84, H⟩ := H
            obtain ⟨r82, hr83⟩ : ∃ r_, r_ = M.slices_Clone_impl_Ins_impl_Ins xs0 := ⟨_, rfl⟩
            have H := H r82 hr83
            refine (slices_Clone_impl_Ins_impl_Ins.con hp84 hr83 (R0.ext hB) hc0).mono ?_
            rintro _ w85 ⟨A87, c88, rfl, P31, e86⟩
            have N31_2 := P31.apart_old O2.lt
            have N27_31 := Own.apart2_new O27 P31 (Nat.le_refl _)
            have N31_30 := P31.apart_old O30.lt
            have O2 := O2.ext e86
            have O27 := O27.ext e86
            have O30 := O30.ext e86
            have LB31 := (P31.mono hS38.size).low
            have O31 := P31.mono hB.size
            have hB := ethen hB e86
            have hS38 := hS38.then e86
            refine ⟨A87, r82.length, c88, rfl, ?_⟩
            refine ⟨sameBut_chg hS38, ?_⟩
            refine stBlk O30 (o := 0) (cs' := #[(.slice A87 r82.length c88), (.slice none 0 0), (.slice (some (⟨g64, 0, none⟩ : Addr)) ((32 : Int).toNat) ((32 : Int).toNat)), (.int .i64 0), (.int .i64 0)]) rfl rfl (Nat.le_of_ble_eq_true rfl) rfl (fun w89 P30 e90 => ?_)
            have O2_ := O2.chg e90 N2_30
            have O27_ := O27.chg e90 N27_30
            have O31_ := O31.chg e90 N31_30
            have O2 := O2_
            have O27 := O27_
            have O31 := O31_
            have hB := echg hB e90 L30
            have O30 := P30
            exact ⟨r82, [], (List.replicate ((32 : Int).toNat) (default : Int)), 0, 0, g30_, A87, c88, none, 0, (fun _ => False), (some (⟨g64, 0, none⟩ : Addr)), ((32 : Int).toNat), rfl, H, hB, O30, L30, O31, OwnW.nil, O27, O2, N2_30, nilW_dis⟩
          · exact trivial
      · refine And.intro ?_ ?_
        · have H := H.2.2.1
          have hS38 := Chg.refl (fun _ => False) w21
          have O2 := O2.ext (Ext.drew _)
          have hB := ethen hB (Ext.drew _)
          have hS38 := hS38.then (Ext.drew _)
          refine newBlk (fun g32_ w91 L32 P32 e92 => ?_)
          have N2_32 := O2.ne L32
          have O2 := O2.ext e92
          have O32 := P32
          have LB32 := Nat.le_trans hS38.size L32
          have L32 := Nat.le_trans hB.size L32
          have hB := ethen hB e92
          have hS38 := hS38.then e92
          refine ⟨sameBut_chg hS38, ?_⟩
          refine And.intro ?_ ?_
          · have H := H.1
            obtain ⟨hp95, H⟩ := H
            obtain ⟨r93, hr94⟩ : ∃ r_, r_ = M.slices_Clone_impl_Ins_impl_Ins xs0 := ⟨_, rfl⟩
            have H := H r93 hr94
            refine (slices_Clone_impl_Ins_impl_Ins.con hp95 hr94 (R0.ext hB) hc0).mono ?_
            rintro _ w96 ⟨A98, c99, rfl, P33, e97⟩
            have N33_2 := P33.apart_old O2.lt
            have N33_32 := P33.apart_old O32.lt
            have O2 := O2.ext e97
            have O32 := O32.ext e97
            have LB33 := (P33.mono hS38.size).low
            have O33 := P33.mono hB.size
            have hB := ethen hB e97
            have hS38 := hS38.then e97
            refine ⟨A98, r93.length, c99, rfl, ?_⟩
            refine ⟨sameBut_chg hS38, ?_⟩
            obtain ⟨⟨h0_103, h1_104⟩, H⟩ := H
            refine makeOwn slt25 h0_103 h1_104 (fun g100 w101 P34 e102 => ?_)
            have N34_2 := P34.apart_old O2.lt
            have N34_32 := P34.apart_old O32.lt
            have N33_34 := Own.apart2_new O33 P34 (Nat.le_refl _)
            have O2 := O2.ext e102
            have O32 := O32.ext e102
            have O33 := O33.ext e102
            have LB34 := (P34.mono hS38.size).low
            have O34 := P34.mono hB.size
            have hB := ethen hB e102
            have hS38 := hS38.then e102
            refine ⟨sameBut_chg hS38, ?_⟩
            refine stBlk O32 (o := 0) (cs' := #[(.slice A98 r93.length c99), (.slice none 0 0), (.slice (some (⟨g100, 0, none⟩ : Addr)) ((32 : Int).toNat) ((32 : Int).toNat)), (.int .i64 0), (.int .i64 0)]) rfl rfl (Nat.le_of_ble_eq_true rfl) rfl (fun w105 P32 e106 => ?_)
            have O2_ := O2.chg e106 N2_32
            have O33_ := O33.chg e106 N33_32
            have O34_ := O34.chg e106 N34_32
            have O2 := O2_
            have O33 := O33_
            have O34 := O34_
            have hB := echg hB e106 L32
            have O32 := P32
            exact ⟨r93, [], (List.replicate ((32 : Int).toNat) (default : Int)), 0, 0, g32_, A98, c99, none, 0, (fun _ => False), (some (⟨g100, 0, none⟩ : Addr)), ((32 : Int).toNat), rfl, H, hB, O32, L32, O33, OwnW.nil, O34, O2, N2_32, nilW_dis⟩
          · refine And.intro ?_ ?_
            · have H := H.2.1
              obtain ⟨⟨h0_110, h1_111⟩, H⟩ := H
              refine makeOwn slt25 h0_110 h1_111 (fun g107 w108 P35 e109 => ?_)
              have N35_2 := P35.apart_old O2.lt
              have N35_32 := P35.apart_old O32.lt
              have O2 := O2.ext e109
              have O32 := O32.ext e109
              have LB35 := (P35.mono hS38.size).low
              have O35 := P35.mono hB.size
              have hB := ethen hB e109
              have hS38 := hS38.then e109
              refine ⟨sameBut_chg hS38, ?_⟩
              obtain ⟨hp114, H⟩ := H
              obtain ⟨r112, hr113⟩ : ∃ r_, r_ = M.slices_Clone_impl_Ins_impl_Ins xs0 := ⟨_, rfl⟩
              have H := H r112 hr113
              refine (slices_Clone_impl_Ins_impl_Ins.con hp114 hr113 (R0.ext hB) hc0).mono ?_
              rintro _ w115 ⟨A117, c118, rfl, P36, e116⟩
              have N36_2 := P36.apart_old O2.lt
              have N36_32 := P36.apart_old O32.lt
              have N35_36 := Own.apart2_new O35 P36 (Nat.le_refl _)
              have O2 := O2.ext e116
              have O32 := O32.ext e116
              have O35 := O35.ext e116
              have LB36 := (P36.mono hS38.size).low
              have O36 := P36.mono hB.size
              have hB := ethen hB e116
              have hS38 := hS38.then e116
              refine ⟨A117, r112.length, c118, rfl, ?_⟩
              refine ⟨sameBut_chg hS38, ?_⟩
              refine stBlk O32 (o := 0) (cs' := #[(.slice A117 r112.length c118), (.slice none 0 0), (.slice (some (⟨g107, 0, none⟩ : Addr)) ((32 : Int).toNat) ((32 : Int).toNat)), (.int .i64 0), (.int .i64 0)]) rfl rfl (Nat.le_of_ble_eq_true rfl) rfl (fun w119 P32 e120 => ?_)
              have O2_ := O2.chg e120 N2_32
              have O35_ := O35.chg e120 N35_32
              have O36_ := O36.chg e120 N36_32
              have O2 := O2_
              have O35 := O35_
              have O36 := O36_
              have hB := echg hB e120 L32
              have O32 := P32
              exact ⟨r112, [], (List.replicate ((32 : Int).toNat) (default : Int)), 0, 0, g32_, A117, c118, none, 0, (fun _ => False), (some (⟨g107, 0, none⟩ : Addr)), ((32 : Int).toNat), rfl, H, hB, O32, L32, O36, OwnW.nil, O35, O2, N2_32, nilW_dis⟩
            · exact trivial
        · exact trivial
  · rintro _ w36 ⟨xs23, xs27, xs30, i33, i34, g18_, A24, c25, A28, c29, F26, A31, c32, rfl, H, hB, O18, L18, O19, O20, O21, O2, N2_18, N20_21⟩
    have H := hKK302 _ H
    dsimp only at H ⊢
    obtain ⟨J240, ⟨m299, hJ298⟩, hS241⟩ := H
    refine ⟨fun m_ z_ w_ => ∃ (i232 : Int) (xs234 : List D.Warp) (i237 : Int) (i238 : Int) (A235 : Option Addr) (c236 : Nat) (F233 : Nat → Prop), z_ = (i232, ()) ∧ J240 m_ (i232, xs234, i237, i238, ()) ∧ Ext w w_ ∧ Blk w_ g18_ 48 #[(.slice A24 xs23.length c25), (.slice A235 xs234.length c236), (.slice A31 xs30.length c32), (.int .i64 i237), (.int .i64 i238)] ∧ OwnW 96 el134 el3 w_ w.heap.size F233 A235 c236 xs234 ∧ Blk w_ g2_ 48 #[(.slice none 0 0), (.slice none 0 0), (.slice none 0 0), (.int .i64 0), (.int .i64 0)] ∧ Own el99 w_ w.heap.size A24 c25 xs23 ∧ Own el3 w_ w.heap.size A31 c32 xs30 ∧ Dis (InW A235 F233) (InB A31), ⟨m299, 0, xs27, i33, i34, A28, c29, F26, rfl, hJ298, hB, O18, O20, O2, O19, O21, N20_21⟩, ?_⟩
    rintro m239 _ w243 ⟨i232, xs234, i237, i238, A235, c236, F233, rfl, hJ300, hB, O18, O49, O2, O19, O21, N49_21⟩
    have H := hS241 m239 _ hJ300
    clear hS241 hJ300
    dsimp only at H ⊢
    refine bcase_mk (fun hc296 => ?_) (fun hc296 => ?_)
    · have H := (bcase_iff.1 H).1 hc296
      refine ⟨(InB A235), ?_⟩
      refine ⟨_, _, _, ⟨(notM1 (fun h_ => (OwnW.dis_blk O49 O18 (by decide) (by decide) (by decide)) (Or.inl h_)) (by first | rfl | (simp only [blk_add]))), (O18.at 1 rfl rfl)⟩, ?_⟩
      have hS244 := Chg.refl (InB A235) w243
      have O2 := O2.ext (Ext.drew _)
      have O18 := O18.ext (Ext.drew _)
      have O19 := O19.ext (Ext.drew _)
      have O21 := O21.ext (Ext.drew _)
      have O49 := O49.ext (Ext.drew _)
      have hB := ethen hB (Ext.drew _)
      have hS244 := hS244.then (Ext.drew _)
      obtain ⟨hp269, H⟩ := H
      obtain ⟨r267, hr268⟩ : ∃ r_, r_ = M.impl_newWarp xs0 i232 := ⟨_, rfl⟩
      have H := H r267 hr268
      refine (impl_newWarp.con hp269 hr268 (R0.ext hB) hc0).mono ?_
      rintro _ w270 ⟨A272, c273, A274, c275, rfl, P53, P54, e271⟩
      have N53_2 := P53.apart_old O2.lt
      have N53_18 := P53.apart_old O18.lt
      have N19_53 := Own.apart2_new O19 P53 (Nat.le_refl _)
      have N21_53 := Own.apart2_new O21 P53 (Nat.le_refl _)
      have N49_53 := O49.dis_new P53 (Nat.le_refl _)
      have N54_2 := P54.apart_old O2.lt
      have N54_18 := P54.apart_old O18.lt
      have N19_54 := Own.apart2_new O19 P54 (Nat.le_refl _)
      have N21_54 := Own.apart2_new O21 P54 (Nat.le_refl _)
      have N49_54 := O49.dis_new P54 (Nat.le_refl _)
      have O2 := O2.ext e271
      have O18 := O18.ext e271
      have O19 := O19.ext e271
      have O21 := O21.ext e271
      have O49 := O49.ext e271
      have LB53 := (P53.mono hS244.size).low
      have LB54 := (P54.mono hS244.size).low
      have O53 := P53.mono hB.size
      have O54 := P54.mono hB.size
      have hB := ethen hB e271
      have hS244 := hS244.then e271
      refine ⟨r267.Number, trivial, ?_⟩
      refine ⟨A272, r267.Frames.length, c273, trivial, ?_⟩
      refine ⟨A274, r267.Regs.length, c275, trivial, ?_⟩
      refine ⟨rfl, ?_⟩
      refine ⟨sameBut_chg hS244, ?_⟩
      refine buildOwn (elH 96) ([⟨r267, A272, c273, A274, c275⟩] : List HW) (fun _ => by kernel_rfl) rfl (fun A276 w277 P55 e278 => ?_)
      have Q55 : OwnW 96 el134 el3 _ _ _ _ _ _ := OwnW.one (P55.mono hB.size) (O53.ext e278) (O54.ext e278)
      have N55_21 : Dis (InW A276 (fun g => InB A272 g ∨ InB A274 g)) (InB A31) := fun g h_ hx_ => h_.elim (fun h_ => (Own.apart2_new O21 P55 (Nat.le_refl _)).inb g hx_ h_) (fun h_ => h_.elim (fun h_ => ((N21_53).symm).inb g h_ hx_) (fun h_ => ((N21_54).symm).inb g h_ hx_))
      have N55_49 : Dis (InW A276 (fun g => InB A272 g ∨ InB A274 g)) (InW A235 F233) := fun g h_ hx_ => h_.elim (fun h_ => O49.dis_new P55 (Nat.le_refl _) g hx_ h_) (fun h_ => h_.elim (fun h_ => N49_53 g hx_ h_) (fun h_ => N49_54 g hx_ h_))
      have O2 := O2.ext e278
      have O18 := O18.ext e278
      have O19 := O19.ext e278
      have O21 := O21.ext e278
      have O49 := O49.ext e278
      have LB55 : ∀ g, InW A276 (fun g => InB A272 g ∨ InB A274 g) g → _ := fun g h_ => h_.elim ((P55.mono hS244.size).low g) (fun h_ => h_.elim (fun h_ => LB53 g h_) (fun h_ => LB54 g h_))
      have O55 := Q55
      have hB := ethen hB e278
      have hS244 := hS244.then e278
      refine ⟨sameBut_chg hS244, ?_⟩
      obtain ⟨hl288, H⟩ := H
      refine appOwnW slt46 slt46.under O49 O55 (N55_49).symm (by decide) (by decide) hB.size rfl (by first | rfl | omega | (simp; done) | (simp; omega)) hl288 (fun A284 c285 w286 P49 e287 => ?_)
      have O2 := O2.app e287 (fun a_ ha_ hb_ => (OwnW.dis_blk O49 O2 (by decide) (by decide) (by decide)) (Or.inl ⟨a_, ha_, hb_⟩))
      have O18 := O18.app e287 (fun a_ ha_ hb_ => (OwnW.dis_blk O49 O18 (by decide) (by decide) (by decide)) (Or.inl ⟨a_, ha_, hb_⟩))
      have O19 := O19.app e287 (fun a_ b_ ha_ hb_ hab_ => (OwnW.dis_type O49 O19 (by decide) (by decide) (by decide)) _ (Or.inl ⟨b_, hb_, rfl⟩) ⟨a_, ha_, hab_⟩)
      have N49_21_ := dis_app N49_21 N55_21 e287 O21
      have O21 := O21.app e287 (fun a_ b_ ha_ hb_ hab_ => N49_21 _ (Or.inl ⟨b_, hb_, rfl⟩) ⟨a_, ha_, hab_⟩)
      have N49_21 := N49_21_
      have hsz49_ := hS244.size
      have hS244 := hS244.app e287 (fun g h_ => (Or.inr h_))
      have hB := eappW hB e287 O49
      have O49 := P49
      refine ⟨sameBut_chg hS244, ?_⟩
      refine stBlk O18 (o := 1) (cs' := #[(.slice A24 xs23.length c25), (.slice A284 (((xs234 ++ ([r267] : List D.Warp))).length) c285), (.slice A31 xs30.length c32), (.int .i64 i237), (.int .i64 i238)]) rfl rfl (Nat.le_of_ble_eq_true rfl) rfl (fun w289 P18 e290 => ?_)
      have O2_ := O2.chg e290 N2_18
      have O19_ := O19.chg e290 (O19.apart_type O18 (by decide))
      have O21_ := O21.chg e290 (O21.apart_type O18 (by decide))
      have O49_ := O49.chg e290 (OwnW.dis_blk O49 O18 (by decide) (by decide) (by decide))
      have O2 := O2_
      have O19 := O19_
      have O21 := O21_
      have O49 := O49_
      have hB := echg hB e290 L18
      have O18 := P18
      obtain ⟨m291, hm292, hJ293⟩ := H
      exact ⟨m291, hm292, (IntKind.wrap .i64 (i232 + 1)), (xs234 ++ ([r267] : List D.Warp)), i237, i238, A284, c285, (fun g => F233 g ∨ (fun g => InB A272 g ∨ InB A274 g) g), rfl, hJ293, hB, O18, O49, O2, O19, O21, N49_21⟩
    · have H := (bcase_iff.1 H).2 hc296
      refine ⟨_, _, _, (O18.at 0 rfl rfl), ?_⟩
      refine ⟨_, _, _, (O18.at 1 rfl rfl), ?_⟩
      refine ⟨_, _, _, (O18.at 2 rfl rfl), ?_⟩
      refine ⟨_, (O18.at 3 rfl rfl), ?_⟩
      refine ⟨_, (O18.at 4 rfl rfl), ?_⟩
      refine stBlk O2 (o := 0) (cs' := #[(.slice A24 xs23.length c25), (.slice A235 xs234.length c236), (.slice A31 xs30.length c32), (.int .i64 i237), (.int .i64 i238)]) rfl rfl (Nat.le_of_ble_eq_true rfl) rfl (fun w294 P2 e295 => ?_)
      have O18_ := O18.chg e295 (N2_18).symm
      have O19_ := O19.chg e295 (O19.apart_type O2 (by decide))
      have O21_ := O21.chg e295 (O21.apart_type O2 (by decide))
      have O49_ := O49.chg e295 (OwnW.dis_blk O49 O2 (by decide) (by decide) (by decide))
      have O18 := O18_
      have O19 := O19_
      have O21 := O21_
      have O49 := O49_
      have hB := echg hB e295 L2
      have O2 := P2
      refine ⟨_, _, _, (O2.at 0 rfl rfl), ?_⟩
      refine ⟨_, _, _, (O2.at 1 rfl rfl), ?_⟩
      refine ⟨_, _, _, (O2.at 2 rfl rfl), ?_⟩
      refine ⟨_, (O2.at 3 rfl rfl), ?_⟩
      refine ⟨_, (O2.at 4 rfl rfl), ?_⟩
      obtain rfl := hr.trans H.symm
      exact ⟨A24, c25, A235, c236, F233, A31, c32, rfl, O19, O49, O21, N49_21, hB⟩

def impl_BlockNew.vc (A0 : Option Addr) (n0 : Nat) (c0 : Nat) (x1 : Int) (w : World) (K : Value → World → Prop) : Prop :=
  newK w (.cells #[(.slice none 0 0), (.slice none 0 0), (.slice none 0 0), (.int .i64 0), (.int .i64 0)] 48) fun g21 w22 => Cll Try.prog 71 #[(.slice A0 n0 c0)] w22 fun v23 w24 => (∃ (b25 : Bool), v23 = (.bool b25) ∧ bcase (!b25) (stCells (⟨g21, 0, none⟩ : Addr) [(.slice none 0 0), (.slice none 0 0), (.slice none 0 0), (.int .i64 0), (.int .i64 0)] 0 w24 fun w26 => ∃ (A27 : Option Addr) (n28 : Nat) (c29 : Nat), w26.cell? ((⟨g21, 0, none⟩ : Addr).add 0) = some (.slice A27 n28 c29) ∧ ∃ (A30 : Option Addr) (n31 : Nat) (c32 : Nat), w26.cell? ((⟨g21, 0, none⟩ : Addr).add 1) = some (.slice A30 n31 c32) ∧ ∃ (A33 : Option Addr) (n34 : Nat) (c35 : Nat), w26.cell? ((⟨g21, 0, none⟩ : Addr).add 2) = some (.slice A33 n34 c35) ∧ ∃ (n36 : Int), w26.cell? ((⟨g21, 0, none⟩ : Addr).add 3) = some (.int .i64 n36) ∧ ∃ (n37 : Int), w26.cell? ((⟨g21, 0, none⟩ : Addr).add 4) = some (.int .i64 n37) ∧ K (.tuple #[(.agg #[(.slice A27 n28 c29), (.slice A30 n31 c32), (.slice A33 n34 c35), (.int .i64 n36), (.int .i64 n37)]), (.bool false)]) w26) (Cll Try.prog 72 #[(.int .i64 x1)] w24 fun v38 w39 => (∃ (b40 : Bool), v38 = (.bool b40) ∧ bcase (!b40) (stCells (⟨g21, 0, none⟩ : Addr) [(.slice none 0 0), (.slice none 0 0), (.slice none 0 0), (.int .i64 0), (.int .i64 0)] 0 w39 fun w41 => ∃ (A42 : Option Addr) (n43 : Nat) (c44 : Nat), w41.cell? ((⟨g21, 0, none⟩ : Addr).add 0) = some (.slice A42 n43 c44) ∧ ∃ (A45 : Option Addr) (n46 : Nat) (c47 : Nat), w41.cell? ((⟨g21, 0, none⟩ : Addr).add 1) = some (.slice A45 n46 c47) ∧ ∃ (A48 : Option Addr) (n49 : Nat) (c50 : Nat), w41.cell? ((⟨g21, 0, none⟩ : Addr).add 2) = some (.slice A48 n49 c50) ∧ ∃ (n51 : Int), w41.cell? ((⟨g21, 0, none⟩ : Addr).add 3) = some (.int .i64 n51) ∧ ∃ (n52 : Int), w41.cell? ((⟨g21, 0, none⟩ : Addr).add 4) = some (.int .i64 n52) ∧ K (.tuple #[(.agg #[(.slice A42 n43 c44), (.slice A45 n46 c47), (.slice A48 n49 c50), (.int .i64 n51), (.int .i64 n52)]), (.bool false)]) w41) (Cll Try.prog 73 #[(.slice A0 n0 c0), (.int .i64 x1)] w39 fun v53 w54 => (∃ (A55 : Option Addr) (n56 : Nat) (c57 : Nat), True ∧ ∃ (A58 : Option Addr) (n59 : Nat) (c60 : Nat), True ∧ ∃ (A61 : Option Addr) (n62 : Nat) (c63 : Nat), True ∧ ∃ (n64 : Int), True ∧ ∃ (n65 : Int), True ∧ v53 = (.agg #[(.slice A55 n56 c57), (.slice A58 n59 c60), (.slice A61 n62 c63), (.int .i64 n64), (.int .i64 n65)]) ∧ stCells (⟨g21, 0, none⟩ : Addr) [(.slice A55 n56 c57), (.slice A58 n59 c60), (.slice A61 n62 c63), (.int .i64 n64), (.int .i64 n65)] 0 w54 fun w66 => ∃ (A67 : Option Addr) (n68 : Nat) (c69 : Nat), w66.cell? ((⟨g21, 0, none⟩ : Addr).add 0) = some (.slice A67 n68 c69) ∧ ∃ (A70 : Option Addr) (n71 : Nat) (c72 : Nat), w66.cell? ((⟨g21, 0, none⟩ : Addr).add 1) = some (.slice A70 n71 c72) ∧ ∃ (A73 : Option Addr) (n74 : Nat) (c75 : Nat), w66.cell? ((⟨g21, 0, none⟩ : Addr).add 2) = some (.slice A73 n74 c75) ∧ ∃ (n76 : Int), w66.cell? ((⟨g21, 0, none⟩ : Addr).add 3) = some (.int .i64 n76) ∧ ∃ (n77 : Int), w66.cell? ((⟨g21, 0, none⟩ : Addr).add 4) = some (.int .i64 n77) ∧ K (.tuple #[(.agg #[(.slice A67 n68 c69), (.slice A70 n71 c72), (.slice A73 n74 c75), (.int .i64 n76), (.int .i64 n77)]), (.bool true)]) w66)))))

def impl_BlockNew.ann : Ann := (.seq .l (.seq (.seq .l (.two (.seq .l .l) .l)) (.seq .l .l)))

theorem impl_BlockNew.vc_eq (A0 : Option Addr) (n0 : Nat) (c0 : Nat) (x1 : Int) (w : World) (K : Value → World → Prop) : vcF Try.prog Try.f30 impl_BlockNew.ann [(.slice A0 n0 c0), (.int .i64 x1)] K w = impl_BlockNew.vc A0 n0 c0 x1 w K := by kernel_rfl

theorem impl_BlockNew.start {A0 : Option Addr} {n0 : Nat} {c0 : Nat} {x1 : Int} {w : World} {K : Value → World → Prop} (h : impl_BlockNew.vc A0 n0 c0 x1 w K) : Cll Try.prog 30 #[(.slice A0 n0 c0), (.int .i64 x1)] w K :=
  vcF_sound mixed (fn := Try.f30) (by kernel_rfl) (by kernel_rfl) (an := impl_BlockNew.ann) (args := [(.slice A0 n0 c0), (.int .i64 x1)]) (by rw [impl_BlockNew.vc_eq]; exact h)

theorem impl_BlockNew.con {xs0 : List D.Ins} {A0 : Option Addr} {c0 : Nat} {x1 : Int} {r : D.Block × Bool} {w : World} (hp : M.impl_BlockNew_pre xs0 x1) (hr : r = M.impl_BlockNew xs0 x1) (R0 : Row el99 w A0 xs0) (hc0 : xs0.length ≤ c0) :
    Cll Try.prog 30 #[(.slice A0 xs0.length c0), (.int .i64 x1)] w (fun v_ w_ => ∃ (A0_ : Option Addr) (c0_ : Nat) (A1_ : Option Addr) (c1_ : Nat) (F1_ : Nat → Prop) (A2_ : Option Addr) (c2_ : Nat), v_ = (.tuple #[(.agg #[(.slice A0_ r.1.Code.length c0_), (.slice A1_ r.1.Warps.length c1_), (.slice A2_ r.1.Memory.length c2_), (.int .i64 r.1.Waiting), (.int .i64 r.1.Phase)]), (.bool r.2)]) ∧ Own el99 w_ w.heap.size A0_ c0_ r.1.Code ∧ OwnW 96 el134 el3 w_ w.heap.size F1_ A1_ c1_ r.1.Warps ∧ Own el3 w_ w.heap.size A2_ c2_ r.1.Memory ∧ Dis (InW A1_ F1_) (InB A2_) ∧ Ext w w_) := by
  have H := wp.impl_BlockNew.math xs0 x1 hp
  have hB := Ext.refl w
  refine impl_BlockNew.start ?_
  unfold impl_BlockNew.vc
  unfold wp.impl_BlockNew at H
  refine newBlk (fun g2_ w21 L2 P2 e22 => ?_)
  have O2 := P2
  have L2 := Nat.le_trans hB.size L2
  have hB := ethen hB e22
  obtain ⟨hp25, H⟩ := H
  obtain ⟨r23, hr24⟩ : ∃ r_, r_ = M.impl_ProgramOk xs0 := ⟨_, rfl⟩
  have H := H r23 hr24
  refine (impl_ProgramOk.con hp25 hr24 (R0.ext hB) hc0).mono ?_
  rintro _ w26 ⟨rfl, e27⟩
  have O2 := O2.ext e27
  have hB := ethen hB e27
  refine ⟨r23, rfl, ?_⟩
  refine bcase_mk (fun hc52 => ?_) (fun hc52 => ?_)
  · have H := (bcase_iff.1 H).1 hc52
    refine stBlk O2 (o := 0) (cs' := #[(.slice none 0 0), (.slice none 0 0), (.slice none 0 0), (.int .i64 0), (.int .i64 0)]) rfl rfl (Nat.le_of_ble_eq_true rfl) rfl (fun w28 P2 e29 => ?_)
    have hB := echg hB e29 L2
    have O2 := P2
    refine ⟨_, _, _, (O2.at 0 rfl rfl), ?_⟩
    refine ⟨_, _, _, (O2.at 1 rfl rfl), ?_⟩
    refine ⟨_, _, _, (O2.at 2 rfl rfl), ?_⟩
    refine ⟨_, (O2.at 3 rfl rfl), ?_⟩
    refine ⟨_, (O2.at 4 rfl rfl), ?_⟩
    obtain rfl := hr.trans H.symm
    exact ⟨none, 0, none, 0, (fun _ => False), none, 0, rfl, Own.nil, OwnW.nil, Own.nil, nilW_dis, hB⟩
  · have H := (bcase_iff.1 H).2 hc52
    obtain ⟨r30, hr31⟩ : ∃ r_, r_ = M.impl_isWarpCount x1 := ⟨_, rfl⟩
    have H := H r30 hr31
    refine (impl_isWarpCount.con hr31 ).mono ?_
    rintro _ w33 ⟨rfl, e34⟩
    have O2 := O2.ext e34
    have hB := ethen hB e34
    refine ⟨r30, rfl, ?_⟩
    refine bcase_mk (fun hc51 => ?_) (fun hc51 => ?_)
    · have H := (bcase_iff.1 H).1 hc51
      refine stBlk O2 (o := 0) (cs' := #[(.slice none 0 0), (.slice none 0 0), (.slice none 0 0), (.int .i64 0), (.int .i64 0)]) rfl rfl (Nat.le_of_ble_eq_true rfl) rfl (fun w35 P2 e36 => ?_)
      have hB := echg hB e36 L2
      have O2 := P2
      refine ⟨_, _, _, (O2.at 0 rfl rfl), ?_⟩
      refine ⟨_, _, _, (O2.at 1 rfl rfl), ?_⟩
      refine ⟨_, _, _, (O2.at 2 rfl rfl), ?_⟩
      refine ⟨_, (O2.at 3 rfl rfl), ?_⟩
      refine ⟨_, (O2.at 4 rfl rfl), ?_⟩
      obtain rfl := hr.trans H.symm
      exact ⟨none, 0, none, 0, (fun _ => False), none, 0, rfl, Own.nil, OwnW.nil, Own.nil, nilW_dis, hB⟩
    · have H := (bcase_iff.1 H).2 hc51
      obtain ⟨hp39, H⟩ := H
      obtain ⟨r37, hr38⟩ : ∃ r_, r_ = M.impl_newBlock xs0 x1 := ⟨_, rfl⟩
      have H := H r37 hr38
      refine (impl_newBlock.con hp39 hr38 (R0.ext hB) hc0).mono ?_
      rintro _ w40 ⟨A42, c43, A44, c45, F48, A46, c47, rfl, P3, P4, P5, N4_5, e41⟩
      have N3_2 := P3.apart_old O2.lt
      have N4_2 := P4.new_disbox O2 (Nat.le_refl _)
      have N5_2 := P5.apart_old O2.lt
      have O2 := O2.ext e41
      have O3 := P3.mono hB.size
      have O4 := P4.mono hB.size
      have O5 := P5.mono hB.size
      have hB := ethen hB e41
      refine ⟨A42, r37.Code.length, c43, trivial, ?_⟩
      refine ⟨A44, r37.Warps.length, c45, trivial, ?_⟩
      refine ⟨A46, r37.Memory.length, c47, trivial, ?_⟩
      refine ⟨r37.Waiting, trivial, ?_⟩
      refine ⟨r37.Phase, trivial, ?_⟩
      refine ⟨rfl, ?_⟩
      refine stBlk O2 (o := 0) (cs' := #[(.slice A42 r37.Code.length c43), (.slice A44 r37.Warps.length c45), (.slice A46 r37.Memory.length c47), (.int .i64 r37.Waiting), (.int .i64 r37.Phase)]) rfl rfl (Nat.le_of_ble_eq_true rfl) rfl (fun w49 P2 e50 => ?_)
      have O3_ := O3.chg e50 N3_2
      have O4_ := O4.chg e50 N4_2
      have O5_ := O5.chg e50 N5_2
      have O3 := O3_
      have O4 := O4_
      have O5 := O5_
      have hB := echg hB e50 L2
      have O2 := P2
      refine ⟨_, _, _, (O2.at 0 rfl rfl), ?_⟩
      refine ⟨_, _, _, (O2.at 1 rfl rfl), ?_⟩
      refine ⟨_, _, _, (O2.at 2 rfl rfl), ?_⟩
      refine ⟨_, (O2.at 3 rfl rfl), ?_⟩
      refine ⟨_, (O2.at 4 rfl rfl), ?_⟩
      obtain rfl := hr.trans H.symm
      exact ⟨A42, c43, A44, c45, F48, A46, c47, rfl, O3, O4, O5, N4_5, hB⟩

def slices_Clone_impl_Frame_impl_Frame.vc (A0 : Option Addr) (n0 : Nat) (c0 : Nat) (w : World) (K : Value → World → Prop) : Prop :=
  bcase (Option.isNone A0) (K (.slice none 0 0) w) (Run Try.prog (Instr.buildSlice 94 0 #[]) w fun v21 w22 => ∃ (A23 : Option Addr) (n24 c25 : Nat), v21 = .slice A23 n24 c25 ∧ Run Try.prog (Builtin.append_ #[94, 94] 94 #[(.slice A23 n24 c25), (.slice A0 n0 c0)]) w22 fun v26 w27 => ∃ (A28 : Option Addr) (n29 c30 : Nat), v26 = .slice A28 n29 c30 ∧ K (.slice A28 n29 c30) w27)

def slices_Clone_impl_Frame_impl_Frame.ann : Ann := (.seq .l (.seq (.seq .l (.two (.seq .l .l) .l)) (.seq .l .l)))

theorem slices_Clone_impl_Frame_impl_Frame.vc_eq (A0 : Option Addr) (n0 : Nat) (c0 : Nat) (w : World) (K : Value → World → Prop) : vcF Try.prog Try.f152 slices_Clone_impl_Frame_impl_Frame.ann [(.slice A0 n0 c0)] K w = slices_Clone_impl_Frame_impl_Frame.vc A0 n0 c0 w K := by kernel_rfl

theorem slices_Clone_impl_Frame_impl_Frame.start {A0 : Option Addr} {n0 : Nat} {c0 : Nat} {w : World} {K : Value → World → Prop} (h : slices_Clone_impl_Frame_impl_Frame.vc A0 n0 c0 w K) : Cll Try.prog 152 #[(.slice A0 n0 c0)] w K :=
  vcF_sound mixed (fn := Try.f152) (by kernel_rfl) (by kernel_rfl) (an := slices_Clone_impl_Frame_impl_Frame.ann) (args := [(.slice A0 n0 c0)]) (by rw [slices_Clone_impl_Frame_impl_Frame.vc_eq]; exact h)

theorem slices_Clone_impl_Frame_impl_Frame.con {xs0 : List D.Frame} {A0 : Option Addr} {c0 : Nat} {r : List D.Frame} {w : World} (hp : M.slices_Clone_impl_Frame_impl_Frame_pre xs0) (hr : r = M.slices_Clone_impl_Frame_impl_Frame xs0) (R0 : Row el134 w A0 xs0) (hc0 : xs0.length ≤ c0) :
    Cll Try.prog 152 #[(.slice A0 xs0.length c0)] w (fun v_ w_ => ∃ (A0_ : Option Addr) (c0_ : Nat), v_ = (.slice A0_ r.length c0_) ∧ Own el134 w_ w.heap.size A0_ c0_ r ∧ Ext w w_) := by
  have H := wp.slices_Clone_impl_Frame_impl_Frame.math xs0 hp
  have hB := Ext.refl w
  refine slices_Clone_impl_Frame_impl_Frame.start ?_
  unfold slices_Clone_impl_Frame_impl_Frame.vc
  unfold wp.slices_Clone_impl_Frame_impl_Frame at H
  obtain ⟨b21, hb22⟩ : ∃ b_, b_ = Option.isNone A0 := ⟨_, rfl⟩
  have H := H b21 (fun h_ => Row.isNone (R0.ext hB) (hb22.symm.trans h_))
  rw [← hb22]
  refine bcase_mk (fun hc31 => ?_) (fun hc31 => ?_)
  · have H := (bcase_iff.1 H).1 hc31
    obtain rfl := hr.trans H.symm
    exact ⟨none, 0, rfl, Own.nil, hB⟩
  · have H := (bcase_iff.1 H).2 hc31
    refine buildOwn el134 ([] : List D.Frame) (fun _ => by kernel_rfl) rfl (fun A23 w24 P2 e25 => ?_)
    have O2 := P2.mono hB.size
    have hB := ethen hB e25
    obtain ⟨hl30, H⟩ := H
    refine appOwn slt94 slt94.under O2 (R0.ext hB) hB.size (by first | rfl | omega | (simp; done) | (simp; omega)) rfl hl30 (fun A26 c27 w28 P2 e29 => ?_)
    have hB := eapp hB e29 O2
    have O2 := P2
    obtain rfl := hr.trans H.symm
    exact ⟨A26, c27, rfl, O2, hB⟩

def impl_copyWarp.vc (x0_0 : Int) (A0_1 : Option Addr) (n0_1 : Nat) (c0_1 : Nat) (A0_2 : Option Addr) (n0_2 : Nat) (c0_2 : Nat) (w : World) (K : Value → World → Prop) : Prop :=
  newK w (.cells #[(.int .i64 x0_0), (.slice A0_1 n0_1 c0_1), (.slice A0_2 n0_2 c0_2)] 96) fun g21 w22 => newK w22 (.cells #[(.int .i64 0), (.slice none 0 0), (.slice none 0 0)] 96) fun g23 w24 => ((∃ (A25 : Option Addr) (n26 : Nat) (c27 : Nat), w24.drew.cell? (((⟨g21, 0, none⟩ : Addr).add 1).add 0) = some (.slice A25 n26 c27) ∧ ((Cll Try.prog 152 #[(.slice A25 n26 c27)] w24.drew fun v28 w29 => (∃ (A30 : Option Addr) (n31 : Nat) (c32 : Nat), v28 = (.slice A30 n31 c32) ∧ ((∃ (A33 : Option Addr) (n34 : Nat) (c35 : Nat), w29.cell? (((⟨g21, 0, none⟩ : Addr).add 2).add 0) = some (.slice A33 n34 c35) ∧ ((Cll Try.prog 76 #[(.slice A33 n34 c35)] w29 fun v36 w37 => (∃ (A38 : Option Addr) (n39 : Nat) (c40 : Nat), v36 = (.slice A38 n39 c40) ∧ ((stCells ((⟨g21, 0, none⟩ : Addr).add 1) [(.slice A30 n31 c32)] 0 w37 fun w41 => ((stCells ((⟨g21, 0, none⟩ : Addr).add 2) [(.slice A38 n39 c40)] 0 w41 fun w42 => ∃ (n43 : Int), w42.cell? ((⟨g21, 0, none⟩ : Addr).add 0) = some (.int .i64 n43) ∧ ∃ (A44 : Option Addr) (n45 : Nat) (c46 : Nat), w42.cell? ((⟨g21, 0, none⟩ : Addr).add 1) = some (.slice A44 n45 c46) ∧ ∃ (A47 : Option Addr) (n48 : Nat) (c49 : Nat), w42.cell? ((⟨g21, 0, none⟩ : Addr).add 2) = some (.slice A47 n48 c49) ∧ stCells (⟨g23, 0, none⟩ : Addr) [(.int .i64 n43), (.slice A44 n45 c46), (.slice A47 n48 c49)] 0 w42 fun w50 => ∃ (n51 : Int), w50.cell? ((⟨g23, 0, none⟩ : Addr).add 0) = some (.int .i64 n51) ∧ ∃ (A52 : Option Addr) (n53 : Nat) (c54 : Nat), w50.cell? ((⟨g23, 0, none⟩ : Addr).add 1) = some (.slice A52 n53 c54) ∧ ∃ (A55 : Option Addr) (n56 : Nat) (c57 : Nat), w50.cell? ((⟨g23, 0, none⟩ : Addr).add 2) = some (.slice A55 n56 c57) ∧ K (.agg #[(.int .i64 n51), (.slice A52 n53 c54), (.slice A55 n56 c57)]) w50) ∧ True)) ∧ True))) ∧ True)) ∧ True))) ∧ (∃ (A58 : Option Addr) (n59 : Nat) (c60 : Nat), w24.drew.cell? (((⟨g21, 0, none⟩ : Addr).add 2).add 0) = some (.slice A58 n59 c60) ∧ ((Cll Try.prog 152 #[(.slice A25 n26 c27)] w24.drew fun v61 w62 => (∃ (A63 : Option Addr) (n64 : Nat) (c65 : Nat), v61 = (.slice A63 n64 c65) ∧ ((Cll Try.prog 76 #[(.slice A58 n59 c60)] w62 fun v66 w67 => (∃ (A68 : Option Addr) (n69 : Nat) (c70 : Nat), v66 = (.slice A68 n69 c70) ∧ ((stCells ((⟨g21, 0, none⟩ : Addr).add 1) [(.slice A63 n64 c65)] 0 w67 fun w71 => ((stCells ((⟨g21, 0, none⟩ : Addr).add 2) [(.slice A68 n69 c70)] 0 w71 fun w72 => ∃ (n73 : Int), w72.cell? ((⟨g21, 0, none⟩ : Addr).add 0) = some (.int .i64 n73) ∧ ∃ (A74 : Option Addr) (n75 : Nat) (c76 : Nat), w72.cell? ((⟨g21, 0, none⟩ : Addr).add 1) = some (.slice A74 n75 c76) ∧ ∃ (A77 : Option Addr) (n78 : Nat) (c79 : Nat), w72.cell? ((⟨g21, 0, none⟩ : Addr).add 2) = some (.slice A77 n78 c79) ∧ stCells (⟨g23, 0, none⟩ : Addr) [(.int .i64 n73), (.slice A74 n75 c76), (.slice A77 n78 c79)] 0 w72 fun w80 => ∃ (n81 : Int), w80.cell? ((⟨g23, 0, none⟩ : Addr).add 0) = some (.int .i64 n81) ∧ ∃ (A82 : Option Addr) (n83 : Nat) (c84 : Nat), w80.cell? ((⟨g23, 0, none⟩ : Addr).add 1) = some (.slice A82 n83 c84) ∧ ∃ (A85 : Option Addr) (n86 : Nat) (c87 : Nat), w80.cell? ((⟨g23, 0, none⟩ : Addr).add 2) = some (.slice A85 n86 c87) ∧ K (.agg #[(.int .i64 n81), (.slice A82 n83 c84), (.slice A85 n86 c87)]) w80) ∧ True)) ∧ True))) ∧ True))) ∧ True)) ∧ True)) ∧ (∃ (A88 : Option Addr) (n89 : Nat) (c90 : Nat), w24.drew.cell? (((⟨g21, 0, none⟩ : Addr).add 2).add 0) = some (.slice A88 n89 c90) ∧ ((∃ (A91 : Option Addr) (n92 : Nat) (c93 : Nat), w24.drew.cell? (((⟨g21, 0, none⟩ : Addr).add 1).add 0) = some (.slice A91 n92 c93) ∧ ((Cll Try.prog 152 #[(.slice A91 n92 c93)] w24.drew fun v94 w95 => (∃ (A96 : Option Addr) (n97 : Nat) (c98 : Nat), v94 = (.slice A96 n97 c98) ∧ ((Cll Try.prog 76 #[(.slice A88 n89 c90)] w95 fun v99 w100 => (∃ (A101 : Option Addr) (n102 : Nat) (c103 : Nat), v99 = (.slice A101 n102 c103) ∧ ((stCells ((⟨g21, 0, none⟩ : Addr).add 1) [(.slice A96 n97 c98)] 0 w100 fun w104 => ((stCells ((⟨g21, 0, none⟩ : Addr).add 2) [(.slice A101 n102 c103)] 0 w104 fun w105 => ∃ (n106 : Int), w105.cell? ((⟨g21, 0, none⟩ : Addr).add 0) = some (.int .i64 n106) ∧ ∃ (A107 : Option Addr) (n108 : Nat) (c109 : Nat), w105.cell? ((⟨g21, 0, none⟩ : Addr).add 1) = some (.slice A107 n108 c109) ∧ ∃ (A110 : Option Addr) (n111 : Nat) (c112 : Nat), w105.cell? ((⟨g21, 0, none⟩ : Addr).add 2) = some (.slice A110 n111 c112) ∧ stCells (⟨g23, 0, none⟩ : Addr) [(.int .i64 n106), (.slice A107 n108 c109), (.slice A110 n111 c112)] 0 w105 fun w113 => ∃ (n114 : Int), w113.cell? ((⟨g23, 0, none⟩ : Addr).add 0) = some (.int .i64 n114) ∧ ∃ (A115 : Option Addr) (n116 : Nat) (c117 : Nat), w113.cell? ((⟨g23, 0, none⟩ : Addr).add 1) = some (.slice A115 n116 c117) ∧ ∃ (A118 : Option Addr) (n119 : Nat) (c120 : Nat), w113.cell? ((⟨g23, 0, none⟩ : Addr).add 2) = some (.slice A118 n119 c120) ∧ K (.agg #[(.int .i64 n114), (.slice A115 n116 c117), (.slice A118 n119 c120)]) w113) ∧ True)) ∧ True))) ∧ True))) ∧ True)) ∧ True)) ∧ True)

def impl_copyWarp.ann : Ann := (.seq .l (.seq .each (.seq .l .l)))

theorem impl_copyWarp.vc_eq (x0_0 : Int) (A0_1 : Option Addr) (n0_1 : Nat) (c0_1 : Nat) (A0_2 : Option Addr) (n0_2 : Nat) (c0_2 : Nat) (w : World) (K : Value → World → Prop) : vcF Try.prog Try.f125 impl_copyWarp.ann [(.agg #[(.int .i64 x0_0), (.slice A0_1 n0_1 c0_1), (.slice A0_2 n0_2 c0_2)])] K w = impl_copyWarp.vc x0_0 A0_1 n0_1 c0_1 A0_2 n0_2 c0_2 w K := by kernel_rfl

theorem impl_copyWarp.start {x0_0 : Int} {A0_1 : Option Addr} {n0_1 : Nat} {c0_1 : Nat} {A0_2 : Option Addr} {n0_2 : Nat} {c0_2 : Nat} {w : World} {K : Value → World → Prop} (h : impl_copyWarp.vc x0_0 A0_1 n0_1 c0_1 A0_2 n0_2 c0_2 w K) : Cll Try.prog 125 #[(.agg #[(.int .i64 x0_0), (.slice A0_1 n0_1 c0_1), (.slice A0_2 n0_2 c0_2)])] w K :=
  vcF_sound mixed (fn := Try.f125) (by kernel_rfl) (by kernel_rfl) (an := impl_copyWarp.ann) (args := [(.agg #[(.int .i64 x0_0), (.slice A0_1 n0_1 c0_1), (.slice A0_2 n0_2 c0_2)])]) (by rw [impl_copyWarp.vc_eq]; exact h)

theorem impl_copyWarp.con {s0 : D.Warp} {A0_1 : Option Addr} {c0_1 : Nat} {A0_2 : Option Addr} {c0_2 : Nat} {r : D.Warp} {w : World} (hp : M.impl_copyWarp_pre s0) (hr : r = M.impl_copyWarp s0) (R0_1 : Row el134 w A0_1 s0.Frames) (hc0_1 : s0.Frames.length ≤ c0_1) (R0_2 : Row el3 w A0_2 s0.Regs) (hc0_2 : s0.Regs.length ≤ c0_2) :
    Cll Try.prog 125 #[(.agg #[(.int .i64 s0.Number), (.slice A0_1 s0.Frames.length c0_1), (.slice A0_2 s0.Regs.length c0_2)])] w (fun v_ w_ => ∃ (A0_ : Option Addr) (c0_ : Nat) (A1_ : Option Addr) (c1_ : Nat), v_ = (.agg #[(.int .i64 r.Number), (.slice A0_ r.Frames.length c0_), (.slice A1_ r.Regs.length c1_)]) ∧ Own el134 w_ w.heap.size A0_ c0_ r.Frames ∧ Own el3 w_ w.heap.size A1_ c1_ r.Regs ∧ Ext w w_) := by
  have H := wp.impl_copyWarp.math s0 hp
  have hB := Ext.refl w
  refine impl_copyWarp.start ?_
  unfold impl_copyWarp.vc
  unfold wp.impl_copyWarp at H
  refine newBlk (fun g3_ w21 L3 P3 e22 => ?_)
  have O3 := P3
  have L3 := Nat.le_trans hB.size L3
  have hB := ethen hB e22
  refine newBlk (fun g4_ w23 L4 P4 e24 => ?_)
  have N3_4 := O3.ne L4
  have O3 := O3.ext e24
  have O4 := P4
  have L4 := Nat.le_trans hB.size L4
  have hB := ethen hB e24
  have O3 := O3.ext (Ext.drew _)
  have O4 := O4.ext (Ext.drew _)
  have hB := ethen hB (Ext.drew _)
  refine And.intro ?_ ?_
  · have H := H.1
    refine ⟨_, _, _, (O3.at 1 rfl rfl), ?_⟩
    refine And.intro ?_ ?_
    · have H := H.1
      obtain ⟨hp27, H⟩ := H
      obtain ⟨r25, hr26⟩ : ∃ r_, r_ = M.slices_Clone_impl_Frame_impl_Frame s0.Frames := ⟨_, rfl⟩
      have H := H r25 hr26
      refine (slices_Clone_impl_Frame_impl_Frame.con hp27 hr26 (R0_1.ext hB) hc0_1).mono ?_
      rintro _ w28 ⟨A30, c31, rfl, P5, e29⟩
      have N5_3 := P5.apart_old O3.lt
      have N5_4 := P5.apart_old O4.lt
      have O3 := O3.ext e29
      have O4 := O4.ext e29
      have O5 := P5.mono hB.size
      have hB := ethen hB e29
      refine ⟨A30, r25.length, c31, rfl, ?_⟩
      refine and_t ?_
      refine ⟨_, _, _, (O3.at 2 rfl rfl), ?_⟩
      refine and_t ?_
      obtain ⟨hp34, H⟩ := H
      obtain ⟨r32, hr33⟩ : ∃ r_, r_ = M.slices_Clone_int_int s0.Regs := ⟨_, rfl⟩
      have H := H r32 hr33
      refine (slices_Clone_int_int.con hp34 hr33 (R0_2.ext hB) hc0_2).mono ?_
      rintro _ w35 ⟨A37, c38, rfl, P6, e36⟩
      have N6_3 := P6.apart_old O3.lt
      have N6_4 := P6.apart_old O4.lt
      have N5_6 := Own.apart2_new O5 P6 (Nat.le_refl _)
      have O3 := O3.ext e36
      have O4 := O4.ext e36
      have O5 := O5.ext e36
      have O6 := P6.mono hB.size
      have hB := ethen hB e36
      refine ⟨A37, r32.length, c38, rfl, ?_⟩
      refine and_t ?_
      refine stBlk O3 (o := 1) (cs' := #[(.int .i64 s0.Number), (.slice A30 r25.length c31), (.slice A0_2 s0.Regs.length c0_2)]) rfl rfl (Nat.le_of_ble_eq_true rfl) rfl (fun w39 P3 e40 => ?_)
      have O4_ := O4.chg e40 (N3_4).symm
      have O5_ := O5.chg e40 N5_3
      have O6_ := O6.chg e40 N6_3
      have O4 := O4_
      have O5 := O5_
      have O6 := O6_
      have hB := echg hB e40 L3
      have O3 := P3
      refine and_t ?_
      refine stBlk O3 (o := 2) (cs' := #[(.int .i64 s0.Number), (.slice A30 r25.length c31), (.slice A37 r32.length c38)]) rfl rfl (Nat.le_of_ble_eq_true rfl) rfl (fun w41 P3 e42 => ?_)
      have O4_ := O4.chg e42 (N3_4).symm
      have O5_ := O5.chg e42 N5_3
      have O6_ := O6.chg e42 N6_3
      have O4 := O4_
      have O5 := O5_
      have O6 := O6_
      have hB := echg hB e42 L3
      have O3 := P3
      refine ⟨_, (O3.at 0 rfl rfl), ?_⟩
      refine ⟨_, _, _, (O3.at 1 rfl rfl), ?_⟩
      refine ⟨_, _, _, (O3.at 2 rfl rfl), ?_⟩
      refine stBlk O4 (o := 0) (cs' := #[(.int .i64 s0.Number), (.slice A30 r25.length c31), (.slice A37 r32.length c38)]) rfl rfl (Nat.le_of_ble_eq_true rfl) rfl (fun w43 P4 e44 => ?_)
      have O3_ := O3.chg e44 N3_4
      have O5_ := O5.chg e44 N5_4
      have O6_ := O6.chg e44 N6_4
      have O3 := O3_
      have O5 := O5_
      have O6 := O6_
      have hB := echg hB e44 L4
      have O4 := P4
      refine ⟨_, (O4.at 0 rfl rfl), ?_⟩
      refine ⟨_, _, _, (O4.at 1 rfl rfl), ?_⟩
      refine ⟨_, _, _, (O4.at 2 rfl rfl), ?_⟩
      obtain rfl := hr.trans H.symm
      exact ⟨A30, c31, A37, c38, rfl, O5, O6, hB⟩
    · refine And.intro ?_ ?_
      · have H := H.2.1
        refine ⟨_, _, _, (O3.at 2 rfl rfl), ?_⟩
        refine and_t ?_
        obtain ⟨hp47, H⟩ := H
        obtain ⟨r45, hr46⟩ : ∃ r_, r_ = M.slices_Clone_impl_Frame_impl_Frame s0.Frames := ⟨_, rfl⟩
        have H := H r45 hr46
        refine (slices_Clone_impl_Frame_impl_Frame.con hp47 hr46 (R0_1.ext hB) hc0_1).mono ?_
        rintro _ w48 ⟨A50, c51, rfl, P7, e49⟩
        have N7_3 := P7.apart_old O3.lt
        have N7_4 := P7.apart_old O4.lt
        have O3 := O3.ext e49
        have O4 := O4.ext e49
        have O7 := P7.mono hB.size
        have hB := ethen hB e49
        refine ⟨A50, r45.length, c51, rfl, ?_⟩
        refine and_t ?_
        obtain ⟨hp54, H⟩ := H
        obtain ⟨r52, hr53⟩ : ∃ r_, r_ = M.slices_Clone_int_int s0.Regs := ⟨_, rfl⟩
        have H := H r52 hr53
        refine (slices_Clone_int_int.con hp54 hr53 (R0_2.ext hB) hc0_2).mono ?_
        rintro _ w55 ⟨A57, c58, rfl, P8, e56⟩
        have N8_3 := P8.apart_old O3.lt
        have N8_4 := P8.apart_old O4.lt
        have N7_8 := Own.apart2_new O7 P8 (Nat.le_refl _)
        have O3 := O3.ext e56
        have O4 := O4.ext e56
        have O7 := O7.ext e56
        have O8 := P8.mono hB.size
        have hB := ethen hB e56
        refine ⟨A57, r52.length, c58, rfl, ?_⟩
        refine and_t ?_
        refine stBlk O3 (o := 1) (cs' := #[(.int .i64 s0.Number), (.slice A50 r45.length c51), (.slice A0_2 s0.Regs.length c0_2)]) rfl rfl (Nat.le_of_ble_eq_true rfl) rfl (fun w59 P3 e60 => ?_)
        have O4_ := O4.chg e60 (N3_4).symm
        have O7_ := O7.chg e60 N7_3
        have O8_ := O8.chg e60 N8_3
        have O4 := O4_
        have O7 := O7_
        have O8 := O8_
        have hB := echg hB e60 L3
        have O3 := P3
        refine and_t ?_
        refine stBlk O3 (o := 2) (cs' := #[(.int .i64 s0.Number), (.slice A50 r45.length c51), (.slice A57 r52.length c58)]) rfl rfl (Nat.le_of_ble_eq_true rfl) rfl (fun w61 P3 e62 => ?_)
        have O4_ := O4.chg e62 (N3_4).symm
        have O7_ := O7.chg e62 N7_3
        have O8_ := O8.chg e62 N8_3
        have O4 := O4_
        have O7 := O7_
        have O8 := O8_
        have hB := echg hB e62 L3
        have O3 := P3
        refine ⟨_, (O3.at 0 rfl rfl), ?_⟩
        refine ⟨_, _, _, (O3.at 1 rfl rfl), ?_⟩
        refine ⟨_, _, _, (O3.at 2 rfl rfl), ?_⟩
        refine stBlk O4 (o := 0) (cs' := #[(.int .i64 s0.Number), (.slice A50 r45.length c51), (.slice A57 r52.length c58)]) rfl rfl (Nat.le_of_ble_eq_true rfl) rfl (fun w63 P4 e64 => ?_)
        have O3_ := O3.chg e64 N3_4
        have O7_ := O7.chg e64 N7_4
        have O8_ := O8.chg e64 N8_4
        have O3 := O3_
        have O7 := O7_
        have O8 := O8_
        have hB := echg hB e64 L4
        have O4 := P4
        refine ⟨_, (O4.at 0 rfl rfl), ?_⟩
        refine ⟨_, _, _, (O4.at 1 rfl rfl), ?_⟩
        refine ⟨_, _, _, (O4.at 2 rfl rfl), ?_⟩
        obtain rfl := hr.trans H.symm
        exact ⟨A50, c51, A57, c58, rfl, O7, O8, hB⟩
      · exact trivial
  · refine And.intro ?_ ?_
    · have H := H.2.1
      refine ⟨_, _, _, (O3.at 2 rfl rfl), ?_⟩
      refine and_t ?_
      refine ⟨_, _, _, (O3.at 1 rfl rfl), ?_⟩
      refine and_t ?_
      obtain ⟨hp67, H⟩ := H
      obtain ⟨r65, hr66⟩ : ∃ r_, r_ = M.slices_Clone_impl_Frame_impl_Frame s0.Frames := ⟨_, rfl⟩
      have H := H r65 hr66
      refine (slices_Clone_impl_Frame_impl_Frame.con hp67 hr66 (R0_1.ext hB) hc0_1).mono ?_
      rintro _ w68 ⟨A70, c71, rfl, P9, e69⟩
      have N9_3 := P9.apart_old O3.lt
      have N9_4 := P9.apart_old O4.lt
      have O3 := O3.ext e69
      have O4 := O4.ext e69
      have O9 := P9.mono hB.size
      have hB := ethen hB e69
      refine ⟨A70, r65.length, c71, rfl, ?_⟩
      refine and_t ?_
      obtain ⟨hp74, H⟩ := H
      obtain ⟨r72, hr73⟩ : ∃ r_, r_ = M.slices_Clone_int_int s0.Regs := ⟨_, rfl⟩
      have H := H r72 hr73
      refine (slices_Clone_int_int.con hp74 hr73 (R0_2.ext hB) hc0_2).mono ?_
      rintro _ w75 ⟨A77, c78, rfl, P10, e76⟩
      have N10_3 := P10.apart_old O3.lt
      have N10_4 := P10.apart_old O4.lt
      have N9_10 := Own.apart2_new O9 P10 (Nat.le_refl _)
      have O3 := O3.ext e76
      have O4 := O4.ext e76
      have O9 := O9.ext e76
      have O10 := P10.mono hB.size
      have hB := ethen hB e76
      refine ⟨A77, r72.length, c78, rfl, ?_⟩
      refine and_t ?_
      refine stBlk O3 (o := 1) (cs' := #[(.int .i64 s0.Number), (.slice A70 r65.length c71), (.slice A0_2 s0.Regs.length c0_2)]) rfl rfl (Nat.le_of_ble_eq_true rfl) rfl (fun w79 P3 e80 => ?_)
      have O4_ := O4.chg e80 (N3_4).symm
      have O9_ := O9.chg e80 N9_3
      have O10_ := O10.chg e80 N10_3
      have O4 := O4_
      have O9 := O9_
      have O10 := O10_
      have hB := echg hB e80 L3
      have O3 := P3
      refine and_t ?_
      refine stBlk O3 (o := 2) (cs' := #[(.int .i64 s0.Number), (.slice A70 r65.length c71), (.slice A77 r72.length c78)]) rfl rfl (Nat.le_of_ble_eq_true rfl) rfl (fun w81 P3 e82 => ?_)
      have O4_ := O4.chg e82 (N3_4).symm
      have O9_ := O9.chg e82 N9_3
      have O10_ := O10.chg e82 N10_3
      have O4 := O4_
      have O9 := O9_
      have O10 := O10_
      have hB := echg hB e82 L3
      have O3 := P3
      refine ⟨_, (O3.at 0 rfl rfl), ?_⟩
      refine ⟨_, _, _, (O3.at 1 rfl rfl), ?_⟩
      refine ⟨_, _, _, (O3.at 2 rfl rfl), ?_⟩
      refine stBlk O4 (o := 0) (cs' := #[(.int .i64 s0.Number), (.slice A70 r65.length c71), (.slice A77 r72.length c78)]) rfl rfl (Nat.le_of_ble_eq_true rfl) rfl (fun w83 P4 e84 => ?_)
      have O3_ := O3.chg e84 N3_4
      have O9_ := O9.chg e84 N9_4
      have O10_ := O10.chg e84 N10_4
      have O3 := O3_
      have O9 := O9_
      have O10 := O10_
      have hB := echg hB e84 L4
      have O4 := P4
      refine ⟨_, (O4.at 0 rfl rfl), ?_⟩
      refine ⟨_, _, _, (O4.at 1 rfl rfl), ?_⟩
      refine ⟨_, _, _, (O4.at 2 rfl rfl), ?_⟩
      obtain rfl := hr.trans H.symm
      exact ⟨A70, c71, A77, c78, rfl, O9, O10, hB⟩
    · exact trivial

def impl_copyBlock.vc (A0_0 : Option Addr) (n0_0 : Nat) (c0_0 : Nat) (A0_1 : Option Addr) (n0_1 : Nat) (c0_1 : Nat) (A0_2 : Option Addr) (n0_2 : Nat) (c0_2 : Nat) (x0_3 : Int) (x0_4 : Int) (w : World) (K : Value → World → Prop) : Prop :=
  newK w (.cells #[(.slice A0_0 n0_0 c0_0), (.slice A0_1 n0_1 c0_1), (.slice A0_2 n0_2 c0_2), (.int .i64 x0_3), (.int .i64 x0_4)] 48) fun g21 w22 => newK w22 (.cells #[(.slice none 0 0), (.slice none 0 0), (.slice none 0 0), (.int .i64 0), (.int .i64 0)] 48) fun g23 w24 => JoinT (σ := Addr × Unit) (fun J25 => (∃ M26 : Nat → Prop, ∃ (A27 : Option Addr) (n28 : Nat) (c29 : Nat), (¬ M26 (((⟨g21, 0, none⟩ : Addr).add 0)).block ∧ w24.cell? (((⟨g21, 0, none⟩ : Addr).add 0).add 0) = some (.slice A27 n28 c29)) ∧ ∃ (A30 : Option Addr) (n31 : Nat) (c32 : Nat), (¬ M26 (((⟨g21, 0, none⟩ : Addr).add 2)).block ∧ w24.cell? (((⟨g21, 0, none⟩ : Addr).add 2).add 0) = some (.slice A30 n31 c32)) ∧ ∃ (n33 : Int), (¬ M26 (((⟨g21, 0, none⟩ : Addr).add 3)).block ∧ w24.cell? (((⟨g21, 0, none⟩ : Addr).add 3).add 0) = some (.int .i64 n33)) ∧ ∃ (n34 : Int), (¬ M26 (((⟨g21, 0, none⟩ : Addr).add 4)).block ∧ w24.cell? (((⟨g21, 0, none⟩ : Addr).add 4).add 0) = some (.int .i64 n34)) ∧ ((Cll Try.prog 123 #[(.slice A27 n28 c29)] w24.drew fun v35 w36 => (∃ (A37 : Option Addr) (n38 : Nat) (c39 : Nat), v35 = (.slice A37 n38 c39) ∧ SameBut M26 w24 w36 ∧ ((Cll Try.prog 76 #[(.slice A30 n31 c32)] w36 fun v40 w41 => (∃ (A42 : Option Addr) (n43 : Nat) (c44 : Nat), v40 = (.slice A42 n43 c44) ∧ SameBut M26 w24 w41 ∧ newK w41 (.cells #[(.slice none 0 0), (.slice none 0 0), (.slice none 0 0), (.int .i64 0), (.int .i64 0)] 48) fun g45 w46 => SameBut M26 w24 w46 ∧ stCells (⟨g45, 0, none⟩ : Addr) [(.slice A37 n38 c39), (.slice none 0 0), (.slice A42 n43 c44), (.int .i64 n33), (.int .i64 n34)] 0 w46 fun w47 => J25 ((⟨g45, 0, none⟩ : Addr), ()) w47)) ∧ (newK w36 (.cells #[(.slice none 0 0), (.slice none 0 0), (.slice none 0 0), (.int .i64 0), (.int .i64 0)] 48) fun g48 w49 => SameBut M26 w24 w49 ∧ Cll Try.prog 76 #[(.slice A30 n31 c32)] w49 fun v50 w51 => (∃ (A52 : Option Addr) (n53 : Nat) (c54 : Nat), v50 = (.slice A52 n53 c54) ∧ SameBut M26 w24 w51 ∧ stCells (⟨g48, 0, none⟩ : Addr) [(.slice A37 n38 c39), (.slice none 0 0), (.slice A52 n53 c54), (.int .i64 n33), (.int .i64 n34)] 0 w51 fun w55 => J25 ((⟨g48, 0, none⟩ : Addr), ()) w55)) ∧ True))) ∧ (newK w24.drew (.cells #[(.slice none 0 0), (.slice none 0 0), (.slice none 0 0), (.int .i64 0), (.int .i64 0)] 48) fun g56 w57 => SameBut M26 w24 w57 ∧ Cll Try.prog 123 #[(.slice A27 n28 c29)] w57 fun v58 w59 => (∃ (A60 : Option Addr) (n61 : Nat) (c62 : Nat), v58 = (.slice A60 n61 c62) ∧ SameBut M26 w24 w59 ∧ Cll Try.prog 76 #[(.slice A30 n31 c32)] w59 fun v63 w64 => (∃ (A65 : Option Addr) (n66 : Nat) (c67 : Nat), v63 = (.slice A65 n66 c67) ∧ SameBut M26 w24 w64 ∧ stCells (⟨g56, 0, none⟩ : Addr) [(.slice A60 n61 c62), (.slice none 0 0), (.slice A65 n66 c67), (.int .i64 n33), (.int .i64 n34)] 0 w64 fun w68 => J25 ((⟨g56, 0, none⟩ : Addr), ()) w68))) ∧ True))) fun z69 w70 => ∃ (A71 : Option Addr) (n72 : Nat) (c73 : Nat), w70.cell? (((⟨g21, 0, none⟩ : Addr).add 1).add 0) = some (.slice A71 n72 c73) ∧ LoopT (σ := Int × Unit) (fun z74 w75 next76 => bcase (decide (z74.1 < ((n72 : Nat) : Int))) (((0 : Int) ≤ z74.1 ∧ z74.1 < ((n72 : Nat) : Int) ∧ ∃ a77 : Addr, A71 = some a77 ∧ ∃ (n78 : Int), w75.cell? ((a77.add ((z74.1.toNat) * 3)).add 0) = some (.int .i64 n78) ∧ ∃ (A79 : Option Addr) (n80 : Nat) (c81 : Nat), w75.cell? ((a77.add ((z74.1.toNat) * 3)).add 1) = some (.slice A79 n80 c81) ∧ ∃ (A82 : Option Addr) (n83 : Nat) (c84 : Nat), w75.cell? ((a77.add ((z74.1.toNat) * 3)).add 2) = some (.slice A82 n83 c84) ∧ newK w75 (.cells #[(.int .i64 0), (.slice none 0 0), (.slice none 0 0)] 96) fun g85 w86 => stCells (⟨g85, 0, none⟩ : Addr) [(.int .i64 n78), (.slice A79 n80 c81), (.slice A82 n83 c84)] 0 w86 fun w87 => (∃ M88 : Nat → Prop, ∃ (A89 : Option Addr) (n90 : Nat) (c91 : Nat), (¬ M88 ((z69.1.add 1)).block ∧ w87.cell? ((z69.1.add 1).add 0) = some (.slice A89 n90 c91)) ∧ ∃ (n92 : Int), (¬ M88 ((⟨g85, 0, none⟩ : Addr)).block ∧ w87.cell? ((⟨g85, 0, none⟩ : Addr).add 0) = some (.int .i64 n92)) ∧ ∃ (A93 : Option Addr) (n94 : Nat) (c95 : Nat), (¬ M88 ((⟨g85, 0, none⟩ : Addr)).block ∧ w87.cell? ((⟨g85, 0, none⟩ : Addr).add 1) = some (.slice A93 n94 c95)) ∧ ∃ (A96 : Option Addr) (n97 : Nat) (c98 : Nat), (¬ M88 ((⟨g85, 0, none⟩ : Addr)).block ∧ w87.cell? ((⟨g85, 0, none⟩ : Addr).add 2) = some (.slice A96 n97 c98)) ∧ Cll Try.prog 125 #[(.agg #[(.int .i64 n92), (.slice A93 n94 c95), (.slice A96 n97 c98)])] w87.drew fun v99 w100 => (∃ (n101 : Int), True ∧ ∃ (A102 : Option Addr) (n103 : Nat) (c104 : Nat), True ∧ ∃ (A105 : Option Addr) (n106 : Nat) (c107 : Nat), True ∧ v99 = (.agg #[(.int .i64 n101), (.slice A102 n103 c104), (.slice A105 n106 c107)]) ∧ SameBut M88 w87 w100 ∧ Run Try.prog (Instr.buildSlice 46 1 #[(0, (.agg #[(.int .i64 n101), (.slice A102 n103 c104), (.slice A105 n106 c107)]))]) w100 fun v108 w109 => ∃ (A110 : Option Addr) (n111 c112 : Nat), v108 = .slice A110 n111 c112 ∧ SameBut M88 w87 w109 ∧ Run Try.prog (Builtin.append_ #[46, 46] 46 #[(.slice A89 n90 c91), (.slice A110 n111 c112)]) w109 fun v113 w114 => ∃ (A115 : Option Addr) (n116 c117 : Nat), v113 = .slice A115 n116 c117 ∧ SameBut M88 w87 w114 ∧ stCells (z69.1.add 1) [(.slice A115 n116 c117)] 0 w114 fun w118 => next76 ((IntKind.wrap .i64 (z74.1 + 1)), ()) w118)))) (∃ (A119 : Option Addr) (n120 : Nat) (c121 : Nat), w75.cell? (z69.1.add 0) = some (.slice A119 n120 c121) ∧ ∃ (A122 : Option Addr) (n123 : Nat) (c124 : Nat), w75.cell? (z69.1.add 1) = some (.slice A122 n123 c124) ∧ ∃ (A125 : Option Addr) (n126 : Nat) (c127 : Nat), w75.cell? (z69.1.add 2) = some (.slice A125 n126 c127) ∧ ∃ (n128 : Int), w75.cell? (z69.1.add 3) = some (.int .i64 n128) ∧ ∃ (n129 : Int), w75.cell? (z69.1.add 4) = some (.int .i64 n129) ∧ stCells (⟨g23, 0, none⟩ : Addr) [(.slice A119 n120 c121), (.slice A122 n123 c124), (.slice A125 n126 c127), (.int .i64 n128), (.int .i64 n129)] 0 w75 fun w130 => ∃ (A131 : Option Addr) (n132 : Nat) (c133 : Nat), w130.cell? ((⟨g23, 0, none⟩ : Addr).add 0) = some (.slice A131 n132 c133) ∧ ∃ (A134 : Option Addr) (n135 : Nat) (c136 : Nat), w130.cell? ((⟨g23, 0, none⟩ : Addr).add 1) = some (.slice A134 n135 c136) ∧ ∃ (A137 : Option Addr) (n138 : Nat) (c139 : Nat), w130.cell? ((⟨g23, 0, none⟩ : Addr).add 2) = some (.slice A137 n138 c139) ∧ ∃ (n140 : Int), w130.cell? ((⟨g23, 0, none⟩ : Addr).add 3) = some (.int .i64 n140) ∧ ∃ (n141 : Int), w130.cell? ((⟨g23, 0, none⟩ : Addr).add 4) = some (.int .i64 n141) ∧ K (.agg #[(.slice A131 n132 c133), (.slice A134 n135 c136), (.slice A137 n138 c139), (.int .i64 n140), (.int .i64 n141)]) w130)) (0, ()) w70

def impl_copyBlock.ann : Ann := (.seq .l (.cut [(3, .ptr)] .l (.seq (.seq .l (.one (.loop [(20, .int .i64)] (.seq .l (.seq (.two .l .l) (.seq (.one (.seq .l .l)) .l)))))) (.seq .l .l))))

theorem impl_copyBlock.vc_eq (A0_0 : Option Addr) (n0_0 : Nat) (c0_0 : Nat) (A0_1 : Option Addr) (n0_1 : Nat) (c0_1 : Nat) (A0_2 : Option Addr) (n0_2 : Nat) (c0_2 : Nat) (x0_3 : Int) (x0_4 : Int) (w : World) (K : Value → World → Prop) : vcF Try.prog Try.f74 impl_copyBlock.ann [(.agg #[(.slice A0_0 n0_0 c0_0), (.slice A0_1 n0_1 c0_1), (.slice A0_2 n0_2 c0_2), (.int .i64 x0_3), (.int .i64 x0_4)])] K w = impl_copyBlock.vc A0_0 n0_0 c0_0 A0_1 n0_1 c0_1 A0_2 n0_2 c0_2 x0_3 x0_4 w K := by kernel_rfl

theorem impl_copyBlock.start {A0_0 : Option Addr} {n0_0 : Nat} {c0_0 : Nat} {A0_1 : Option Addr} {n0_1 : Nat} {c0_1 : Nat} {A0_2 : Option Addr} {n0_2 : Nat} {c0_2 : Nat} {x0_3 : Int} {x0_4 : Int} {w : World} {K : Value → World → Prop} (h : impl_copyBlock.vc A0_0 n0_0 c0_0 A0_1 n0_1 c0_1 A0_2 n0_2 c0_2 x0_3 x0_4 w K) : Cll Try.prog 74 #[(.agg #[(.slice A0_0 n0_0 c0_0), (.slice A0_1 n0_1 c0_1), (.slice A0_2 n0_2 c0_2), (.int .i64 x0_3), (.int .i64 x0_4)])] w K :=
  vcF_sound mixed (fn := Try.f74) (by kernel_rfl) (by kernel_rfl) (an := impl_copyBlock.ann) (args := [(.agg #[(.slice A0_0 n0_0 c0_0), (.slice A0_1 n0_1 c0_1), (.slice A0_2 n0_2 c0_2), (.int .i64 x0_3), (.int .i64 x0_4)])]) (by rw [impl_copyBlock.vc_eq]; exact h)

theorem impl_copyBlock.con {s0 : D.Block} {A0_0 : Option Addr} {c0_0 : Nat} {A0_1 : Option Addr} {c0_1 : Nat} {A0_2 : Option Addr} {c0_2 : Nat} {r : D.Block} {w : World} (hp : M.impl_copyBlock_pre s0) (hr : r = M.impl_copyBlock s0) (R0_0 : Row el99 w A0_0 s0.Code) (hc0_0 : s0.Code.length ≤ c0_0) (R0_1 : RowW 96 el134 el3 w A0_1 s0.Warps) (hc0_1 : s0.Warps.length ≤ c0_1) (R0_2 : Row el3 w A0_2 s0.Memory) (hc0_2 : s0.Memory.length ≤ c0_2) :
    Cll Try.prog 74 #[(.agg #[(.slice A0_0 s0.Code.length c0_0), (.slice A0_1 s0.Warps.length c0_1), (.slice A0_2 s0.Memory.length c0_2), (.int .i64 s0.Waiting), (.int .i64 s0.Phase)])] w (fun v_ w_ => ∃ (A0_ : Option Addr) (c0_ : Nat) (A1_ : Option Addr) (c1_ : Nat) (F1_ : Nat → Prop) (A2_ : Option Addr) (c2_ : Nat), v_ = (.agg #[(.slice A0_ r.Code.length c0_), (.slice A1_ r.Warps.length c1_), (.slice A2_ r.Memory.length c2_), (.int .i64 r.Waiting), (.int .i64 r.Phase)]) ∧ Own el99 w_ w.heap.size A0_ c0_ r.Code ∧ OwnW 96 el134 el3 w_ w.heap.size F1_ A1_ c1_ r.Warps ∧ Own el3 w_ w.heap.size A2_ c2_ r.Memory ∧ Dis (InW A1_ F1_) (InB A2_) ∧ Ext w w_) := by
  have H := wp.impl_copyBlock.math s0 hp
  have hB := Ext.refl w
  refine impl_copyBlock.start ?_
  unfold impl_copyBlock.vc
  unfold wp.impl_copyBlock at H
  refine newBlk (fun g4_ w21 L4 P4 e22 => ?_)
  have O4 := P4
  have L4 := Nat.le_trans hB.size L4
  have hB := ethen hB e22
  refine newBlk (fun g5_ w23 L5 P5 e24 => ?_)
  have N4_5 := O4.ne L5
  have O4 := O4.ext e24
  have O5 := P5
  have L5 := Nat.le_trans hB.size L5
  have hB := ethen hB e24
  obtain ⟨K329, hKK329, H⟩ := joinP_out H
  refine ⟨fun z_ w_ => ∃ (xs25 : List D.Ins) (xs29 : List D.Warp) (xs32 : List Int) (i35 : Int) (i36 : Int) (g14_ : Nat) (A26 : Option Addr) (c27 : Nat) (A30 : Option Addr) (c31 : Nat) (F28 : Nat → Prop) (A33 : Option Addr) (c34 : Nat), z_ = ((⟨g14_, 0, none⟩ : Addr), ()) ∧ K329 (xs25, xs29, xs32, i35, i36, ()) ∧ Ext w w_ ∧ Blk w_ g14_ 48 #[(.slice A26 xs25.length c27), (.slice A30 xs29.length c31), (.slice A33 xs32.length c34), (.int .i64 i35), (.int .i64 i36)] ∧ w.heap.size ≤ g14_ ∧ Own el99 w_ w.heap.size A26 c27 xs25 ∧ OwnW 96 el134 el3 w_ w.heap.size F28 A30 c31 xs29 ∧ Own el3 w_ w.heap.size A33 c34 xs32 ∧ Blk w_ g4_ 48 #[(.slice A0_0 s0.Code.length c0_0), (.slice A0_1 s0.Warps.length c0_1), (.slice A0_2 s0.Memory.length c0_2), (.int .i64 s0.Waiting), (.int .i64 s0.Phase)] ∧ Blk w_ g5_ 48 #[(.slice none 0 0), (.slice none 0 0), (.slice none 0 0), (.int .i64 0), (.int .i64 0)] ∧ g4_ ≠ g14_ ∧ g5_ ≠ g14_ ∧ Dis (InW A30 F28) (InB A33), ?_, ?_⟩
  · refine ⟨(fun _ => False), ?_⟩
    refine ⟨_, _, _, ⟨(fun h_ => h_), (O4.at 0 rfl rfl)⟩, ?_⟩
    refine ⟨_, _, _, ⟨(fun h_ => h_), (O4.at 2 rfl rfl)⟩, ?_⟩
    refine ⟨_, ⟨(fun h_ => h_), (O4.at 3 rfl rfl)⟩, ?_⟩
    refine ⟨_, ⟨(fun h_ => h_), (O4.at 4 rfl rfl)⟩, ?_⟩
    refine And.intro ?_ ?_
    · have H := H.1
      have hS40 := Chg.refl (fun _ => False) w23
      have O4 := O4.ext (Ext.drew _)
      have O5 := O5.ext (Ext.drew _)
      have hB := ethen hB (Ext.drew _)
      have hS40 := hS40.then (Ext.drew _)
      obtain ⟨hp43, H⟩ := H
      obtain ⟨r41, hr42⟩ : ∃ r_, r_ = M.slices_Clone_impl_Ins_impl_Ins s0.Code := ⟨_, rfl⟩
      have H := H r41 hr42
      refine (slices_Clone_impl_Ins_impl_Ins.con hp43 hr42 (R0_0.ext hB) hc0_0).mono ?_
      rintro _ w44 ⟨A46, c47, rfl, P18, e45⟩
      have N18_4 := P18.apart_old O4.lt
      have N18_5 := P18.apart_old O5.lt
      have O4 := O4.ext e45
      have O5 := O5.ext e45
      have LB18 := (P18.mono hS40.size).low
      have O18 := P18.mono hB.size
      have hB := ethen hB e45
      have hS40 := hS40.then e45
      refine ⟨A46, r41.length, c47, rfl, ?_⟩
      refine ⟨sameBut_chg hS40, ?_⟩
      refine And.intro ?_ ?_
      · have H := H.1
        obtain ⟨hp50, H⟩ := H
        obtain ⟨r48, hr49⟩ : ∃ r_, r_ = M.slices_Clone_int_int s0.Memory := ⟨_, rfl⟩
        have H := H r48 hr49
        refine (slices_Clone_int_int.con hp50 hr49 (R0_2.ext hB) hc0_2).mono ?_
        rintro _ w51 ⟨A53, c54, rfl, P19, e52⟩
        have N19_4 := P19.apart_old O4.lt
        have N19_5 := P19.apart_old O5.lt
        have N18_19 := Own.apart2_new O18 P19 (Nat.le_refl _)
        have O4 := O4.ext e52
        have O5 := O5.ext e52
        have O18 := O18.ext e52
        have LB19 := (P19.mono hS40.size).low
        have O19 := P19.mono hB.size
        have hB := ethen hB e52
        have hS40 := hS40.then e52
        refine ⟨A53, r48.length, c54, rfl, ?_⟩
        refine ⟨sameBut_chg hS40, ?_⟩
        refine newBlk (fun g20_ w55 L20 P20 e56 => ?_)
        have N4_20 := O4.ne L20
        have N5_20 := O5.ne L20
        have N18_20 := O18.apart_new L20
        have N19_20 := O19.apart_new L20
        have O4 := O4.ext e56
        have O5 := O5.ext e56
        have O18 := O18.ext e56
        have O19 := O19.ext e56
        have O20 := P20
        have LB20 := Nat.le_trans hS40.size L20
        have L20 := Nat.le_trans hB.size L20
        have hB := ethen hB e56
        have hS40 := hS40.then e56
        refine ⟨sameBut_chg hS40, ?_⟩
        refine stBlk O20 (o := 0) (cs' := #[(.slice A46 r41.length c47), (.slice none 0 0), (.slice A53 r48.length c54), (.int .i64 s0.Waiting), (.int .i64 s0.Phase)]) rfl rfl (Nat.le_of_ble_eq_true rfl) rfl (fun w57 P20 e58 => ?_)
        have O4_ := O4.chg e58 N4_20
        have O5_ := O5.chg e58 N5_20
        have O18_ := O18.chg e58 N18_20
        have O19_ := O19.chg e58 N19_20
        have O4 := O4_
        have O5 := O5_
        have O18 := O18_
        have O19 := O19_
        have hB := echg hB e58 L20
        have O20 := P20
        exact ⟨r41, [], r48, s0.Waiting, s0.Phase, g20_, A46, c47, none, 0, (fun _ => False), A53, c54, rfl, H, hB, O20, L20, O18, OwnW.nil, O19, O4, O5, N4_20, N5_20, nilW_dis⟩
      · refine And.intro ?_ ?_
        · have H := H.2.1
          refine newBlk (fun g21_ w59 L21 P21 e60 => ?_)
          have N4_21 := O4.ne L21
          have N5_21 := O5.ne L21
          have N18_21 := O18.apart_new L21
          have O4 := O4.ext e60
          have O5 := O5.ext e60
          have O18 := O18.ext e60
          have O21 := P21
          have LB21 := Nat.le_trans hS40.size L21
          have L21 := Nat.le_trans hB.size L21
          have hB := ethen hB e60
          have hS40 := hS40.then e60
          refine ⟨sameBut_chg hS40, ?_⟩
          obtain ⟨hp63, H⟩ := H
          obtain ⟨r61, hr62⟩ : ∃ r_, r_ = M.slices_Clone_int_int s0.Memory := ⟨_, rfl⟩
          have H := H r61 hr62
          refine (slices_Clone_int_int.con hp63 hr62 (R0_2.ext hB) hc0_2).mono ?_
          rintro _ w64 ⟨A66, c67, rfl, P22, e65⟩
          have N22_4 := P22.apart_old O4.lt
          have N22_5 := P22.apart_old O5.lt
          have N18_22 := Own.apart2_new O18 P22 (Nat.le_refl _)
          have N22_21 := P22.apart_old O21.lt
          have O4 := O4.ext e65
          have O5 := O5.ext e65
          have O18 := O18.ext e65
          have O21 := O21.ext e65
          have LB22 := (P22.mono hS40.size).low
          have O22 := P22.mono hB.size
          have hB := ethen hB e65
          have hS40 := hS40.then e65
          refine ⟨A66, r61.length, c67, rfl, ?_⟩
          refine ⟨sameBut_chg hS40, ?_⟩
          refine stBlk O21 (o := 0) (cs' := #[(.slice A46 r41.length c47), (.slice none 0 0), (.slice A66 r61.length c67), (.int .i64 s0.Waiting), (.int .i64 s0.Phase)]) rfl rfl (Nat.le_of_ble_eq_true rfl) rfl (fun w68 P21 e69 => ?_)
          have O4_ := O4.chg e69 N4_21
          have O5_ := O5.chg e69 N5_21
          have O18_ := O18.chg e69 N18_21
          have O22_ := O22.chg e69 N22_21
          have O4 := O4_
          have O5 := O5_
          have O18 := O18_
          have O22 := O22_
          have hB := echg hB e69 L21
          have O21 := P21
          exact ⟨r41, [], r61, s0.Waiting, s0.Phase, g21_, A46, c47, none, 0, (fun _ => False), A66, c67, rfl, H, hB, O21, L21, O18, OwnW.nil, O22, O4, O5, N4_21, N5_21, nilW_dis⟩
        · exact trivial
    · refine And.intro ?_ ?_
      · have H := H.2.1
        have hS40 := Chg.refl (fun _ => False) w23
        have O4 := O4.ext (Ext.drew _)
        have O5 := O5.ext (Ext.drew _)
        have hB := ethen hB (Ext.drew _)
        have hS40 := hS40.then (Ext.drew _)
        refine newBlk (fun g23_ w70 L23 P23 e71 => ?_)
        have N4_23 := O4.ne L23
        have N5_23 := O5.ne L23
        have O4 := O4.ext e71
        have O5 := O5.ext e71
        have O23 := P23
        have LB23 := Nat.le_trans hS40.size L23
        have L23 := Nat.le_trans hB.size L23
        have hB := ethen hB e71
        have hS40 := hS40.then e71
        refine ⟨sameBut_chg hS40, ?_⟩
        obtain ⟨hp74, H⟩ := H
        obtain ⟨r72, hr73⟩ : ∃ r_, r_ = M.slices_Clone_impl_Ins_impl_Ins s0.Code := ⟨_, rfl⟩
        have H := H r72 hr73
        refine (slices_Clone_impl_Ins_impl_Ins.con hp74 hr73 (R0_0.ext hB) hc0_0).mono ?_
        rintro _ w75 ⟨A77, c78, rfl, P24, e76⟩
        have N24_4 := P24.apart_old O4.lt
        have N24_5 := P24.apart_old O5.lt
        have N24_23 := P24.apart_old O23.lt
        have O4 := O4.ext e76
        have O5 := O5.ext e76
        have O23 := O23.ext e76
        have LB24 := (P24.mono hS40.size).low
        have O24 := P24.mono hB.size
        have hB := ethen hB e76
        have hS40 := hS40.then e76
        refine ⟨A77, r72.length, c78, rfl, ?_⟩
        refine ⟨sameBut_chg hS40, ?_⟩
        obtain ⟨hp81, H⟩ := H
        obtain ⟨r79, hr80⟩ : ∃ r_, r_ = M.slices_Clone_int_int s0.Memory := ⟨_, rfl⟩
        have H := H r79 hr80
        refine (slices_Clone_int_int.con hp81 hr80 (R0_2.ext hB) hc0_2).mono ?_
        rintro _ w82 ⟨A84, c85, rfl, P25, e83⟩
        have N25_4 := P25.apart_old O4.lt
        have N25_5 := P25.apart_old O5.lt
        have N25_23 := P25.apart_old O23.lt
        have N24_25 := Own.apart2_new O24 P25 (Nat.le_refl _)
        have O4 := O4.ext e83
        have O5 := O5.ext e83
        have O23 := O23.ext e83
        have O24 := O24.ext e83
        have LB25 := (P25.mono hS40.size).low
        have O25 := P25.mono hB.size
        have hB := ethen hB e83
        have hS40 := hS40.then e83
        refine ⟨A84, r79.length, c85, rfl, ?_⟩
        refine ⟨sameBut_chg hS40, ?_⟩
        refine stBlk O23 (o := 0) (cs' := #[(.slice A77 r72.length c78), (.slice none 0 0), (.slice A84 r79.length c85), (.int .i64 s0.Waiting), (.int .i64 s0.Phase)]) rfl rfl (Nat.le_of_ble_eq_true rfl) rfl (fun w86 P23 e87 => ?_)
        have O4_ := O4.chg e87 N4_23
        have O5_ := O5.chg e87 N5_23
        have O24_ := O24.chg e87 N24_23
        have O25_ := O25.chg e87 N25_23
        have O4 := O4_
        have O5 := O5_
        have O24 := O24_
        have O25 := O25_
        have hB := echg hB e87 L23
        have O23 := P23
        exact ⟨r72, [], r79, s0.Waiting, s0.Phase, g23_, A77, c78, none, 0, (fun _ => False), A84, c85, rfl, H, hB, O23, L23, O24, OwnW.nil, O25, O4, O5, N4_23, N5_23, nilW_dis⟩
      · exact trivial
  · rintro _ w38 ⟨xs25, xs29, xs32, i35, i36, g14_, A26, c27, A30, c31, F28, A33, c34, rfl, H, hB, O14, L14, O15, O16, O17, O4, O5, N4_14, N5_14, N16_17⟩
    have H := hKK329 _ H
    dsimp only at H ⊢
    refine ⟨_, _, _, (O4.at 1 rfl rfl), ?_⟩
    obtain ⟨J247, ⟨m326, hJ325⟩, hS248⟩ := H
    refine ⟨fun m_ z_ w_ => ∃ (i239 : Int) (xs241 : List D.Warp) (i244 : Int) (i245 : Int) (A242 : Option Addr) (c243 : Nat) (F240 : Nat → Prop), z_ = (i239, ()) ∧ J247 m_ (i239, xs241, i244, i245, ()) ∧ Ext w w_ ∧ Blk w_ g14_ 48 #[(.slice A26 xs25.length c27), (.slice A242 xs241.length c243), (.slice A33 xs32.length c34), (.int .i64 i244), (.int .i64 i245)] ∧ OwnW 96 el134 el3 w_ w.heap.size F240 A242 c243 xs241 ∧ Blk w_ g4_ 48 #[(.slice A0_0 s0.Code.length c0_0), (.slice A0_1 s0.Warps.length c0_1), (.slice A0_2 s0.Memory.length c0_2), (.int .i64 s0.Waiting), (.int .i64 s0.Phase)] ∧ Blk w_ g5_ 48 #[(.slice none 0 0), (.slice none 0 0), (.slice none 0 0), (.int .i64 0), (.int .i64 0)] ∧ Own el99 w_ w.heap.size A26 c27 xs25 ∧ Own el3 w_ w.heap.size A33 c34 xs32 ∧ Dis (InW A242 F240) (InB A33), ⟨m326, 0, xs29, i35, i36, A30, c31, F28, rfl, hJ325, hB, O14, O16, O4, O5, O15, O17, N16_17⟩, ?_⟩
    rintro m246 _ w250 ⟨i239, xs241, i244, i245, A242, c243, F240, rfl, hJ327, hB, O14, O44, O4, O5, O15, O17, N44_17⟩
    have H := hS248 m246 _ hJ327
    clear hS248 hJ327
    dsimp only at H ⊢
    refine bcase_mk (fun hc323 => ?_) (fun hc323 => ?_)
    · have H := (bcase_iff.1 H).1 hc323
      obtain ⟨⟨h0_254, h1_255⟩, H⟩ := H
      obtain ⟨a252, ha253, A259, c260, A261, c262, f256, f257, f258, R263, hle265, R264, hle266⟩ := RowW.at R0_1 h0_254 h1_255
      refine ⟨h0_254, h1_255, a252, ha253, ?_⟩
      refine ⟨_, (Ext.cell hB f256), ?_⟩
      refine ⟨_, _, _, (Ext.cell hB f257), ?_⟩
      refine ⟨_, _, _, (Ext.cell hB f258), ?_⟩
      refine newBlk (fun g47_ w267 L47 P47 e268 => ?_)
      have N4_47 := O4.ne L47
      have N5_47 := O5.ne L47
      have N14_47 := O14.ne L47
      have N15_47 := O15.apart_new L47
      have N17_47 := O17.apart_new L47
      have N44_47 := O44.dis_newbox L47
      have O4 := O4.ext e268
      have O5 := O5.ext e268
      have O14 := O14.ext e268
      have O15 := O15.ext e268
      have O17 := O17.ext e268
      have O44 := O44.ext e268
      have O47 := P47
      have L47 := Nat.le_trans hB.size L47
      have hB := ethen hB e268
      refine stBlk O47 (o := 0) (cs' := #[(.int .i64 ((rd s0.Warps i239).Number)), (.slice A259 ((rd s0.Warps i239).Frames.length) c260), (.slice A261 ((rd s0.Warps i239).Regs.length) c262)]) rfl rfl (Nat.le_of_ble_eq_true rfl) rfl (fun w269 P47 e270 => ?_)
      have O4_ := O4.chg e270 N4_47
      have O5_ := O5.chg e270 N5_47
      have O14_ := O14.chg e270 N14_47
      have O15_ := O15.chg e270 N15_47
      have O17_ := O17.chg e270 N17_47
      have O44_ := O44.chg e270 N44_47
      have O4 := O4_
      have O5 := O5_
      have O14 := O14_
      have O15 := O15_
      have O17 := O17_
      have O44 := O44_
      have hB := echg hB e270 L47
      have O47 := P47
      refine ⟨(InB A242), ?_⟩
      refine ⟨_, _, _, ⟨(notM1 (fun h_ => (OwnW.dis_blk O44 O14 (by decide) (by decide) (by decide)) (Or.inl h_)) (by first | rfl | (simp only [blk_add]))), (O14.at 1 rfl rfl)⟩, ?_⟩
      refine ⟨_, ⟨(notM1 (fun h_ => N44_47 (Or.inl h_)) (by first | rfl | (simp only [blk_add]))), (O47.at 0 rfl rfl)⟩, ?_⟩
      refine ⟨_, _, _, ⟨(notM1 (fun h_ => N44_47 (Or.inl h_)) (by first | rfl | (simp only [blk_add]))), (O47.at 1 rfl rfl)⟩, ?_⟩
      refine ⟨_, _, _, ⟨(notM1 (fun h_ => N44_47 (Or.inl h_)) (by first | rfl | (simp only [blk_add]))), (O47.at 2 rfl rfl)⟩, ?_⟩
      have hS271 := Chg.refl (InB A242) w269
      have O4 := O4.ext (Ext.drew _)
      have O5 := O5.ext (Ext.drew _)
      have O14 := O14.ext (Ext.drew _)
      have O15 := O15.ext (Ext.drew _)
      have O17 := O17.ext (Ext.drew _)
      have O44 := O44.ext (Ext.drew _)
      have O47 := O47.ext (Ext.drew _)
      have hB := ethen hB (Ext.drew _)
      have hS271 := hS271.then (Ext.drew _)
      obtain ⟨hp296, H⟩ := H
      obtain ⟨r294, hr295⟩ : ∃ r_, r_ = M.impl_copyWarp (rd s0.Warps i239) := ⟨_, rfl⟩
      have H := H r294 hr295
      refine (cllArgs (by first | (simp only [List.length_set]; done) | (simp; done)) (impl_copyWarp.con hp296 hr295 (R263.ext hB) hle265 (R264.ext hB) hle266)).mono ?_
      rintro _ w297 ⟨A299, c300, A301, c302, rfl, P51, P52, e298⟩
      have N51_4 := P51.apart_old O4.lt
      have N51_5 := P51.apart_old O5.lt
      have N51_14 := P51.apart_old O14.lt
      have N15_51 := Own.apart2_new O15 P51 (Nat.le_refl _)
      have N17_51 := Own.apart2_new O17 P51 (Nat.le_refl _)
      have N44_51 := O44.dis_new P51 (Nat.le_refl _)
      have N51_47 := P51.apart_old O47.lt
      have N52_4 := P52.apart_old O4.lt
      have N52_5 := P52.apart_old O5.lt
      have N52_14 := P52.apart_old O14.lt
      have N15_52 := Own.apart2_new O15 P52 (Nat.le_refl _)
      have N17_52 := Own.apart2_new O17 P52 (Nat.le_refl _)
      have N44_52 := O44.dis_new P52 (Nat.le_refl _)
      have N52_47 := P52.apart_old O47.lt
      have O4 := O4.ext e298
      have O5 := O5.ext e298
      have O14 := O14.ext e298
      have O15 := O15.ext e298
      have O17 := O17.ext e298
      have O44 := O44.ext e298
      have O47 := O47.ext e298
      have LB51 := (P51.mono hS271.size).low
      have LB52 := (P52.mono hS271.size).low
      have O51 := P51.mono hB.size
      have O52 := P52.mono hB.size
      have hB := ethen hB e298
      have hS271 := hS271.then e298
      refine ⟨r294.Number, trivial, ?_⟩
      refine ⟨A299, r294.Frames.length, c300, trivial, ?_⟩
      refine ⟨A301, r294.Regs.length, c302, trivial, ?_⟩
      refine ⟨rfl, ?_⟩
      refine ⟨sameBut_chg hS271, ?_⟩
      refine buildOwn (elH 96) ([⟨r294, A299, c300, A301, c302⟩] : List HW) (fun _ => by kernel_rfl) rfl (fun A303 w304 P53 e305 => ?_)
      have Q53 : OwnW 96 el134 el3 _ _ _ _ _ _ := OwnW.one (P53.mono hB.size) (O51.ext e305) (O52.ext e305)
      have N53_17 : Dis (InW A303 (fun g => InB A299 g ∨ InB A301 g)) (InB A33) := fun g h_ hx_ => h_.elim (fun h_ => (Own.apart2_new O17 P53 (Nat.le_refl _)).inb g hx_ h_) (fun h_ => h_.elim (fun h_ => ((N17_51).symm).inb g h_ hx_) (fun h_ => ((N17_52).symm).inb g h_ hx_))
      have N53_44 : Dis (InW A303 (fun g => InB A299 g ∨ InB A301 g)) (InW A242 F240) := fun g h_ hx_ => h_.elim (fun h_ => O44.dis_new P53 (Nat.le_refl _) g hx_ h_) (fun h_ => h_.elim (fun h_ => N44_51 g hx_ h_) (fun h_ => N44_52 g hx_ h_))
      have N53_47 : ¬ InW A303 (fun g => InB A299 g ∨ InB A301 g) g47_ := fun h_ => h_.elim (fun h_ => P53.apart_old O47.lt |>.inb h_) (fun h_ => h_.elim (N51_47).inb (N52_47).inb)
      have O4 := O4.ext e305
      have O5 := O5.ext e305
      have O14 := O14.ext e305
      have O15 := O15.ext e305
      have O17 := O17.ext e305
      have O44 := O44.ext e305
      have O47 := O47.ext e305
      have LB53 : ∀ g, InW A303 (fun g => InB A299 g ∨ InB A301 g) g → _ := fun g h_ => h_.elim ((P53.mono hS271.size).low g) (fun h_ => h_.elim (fun h_ => LB51 g h_) (fun h_ => LB52 g h_))
      have O53 := Q53
      have hB := ethen hB e305
      have hS271 := hS271.then e305
      refine ⟨sameBut_chg hS271, ?_⟩
      obtain ⟨hl315, H⟩ := H
      refine appOwnW slt46 slt46.under O44 O53 (N53_44).symm (by decide) (by decide) hB.size rfl (by first | rfl | omega | (simp; done) | (simp; omega)) hl315 (fun A311 c312 w313 P44 e314 => ?_)
      have O4 := O4.app e314 (fun a_ ha_ hb_ => (OwnW.dis_blk O44 O4 (by decide) (by decide) (by decide)) (Or.inl ⟨a_, ha_, hb_⟩))
      have O5 := O5.app e314 (fun a_ ha_ hb_ => (OwnW.dis_blk O44 O5 (by decide) (by decide) (by decide)) (Or.inl ⟨a_, ha_, hb_⟩))
      have O14 := O14.app e314 (fun a_ ha_ hb_ => (OwnW.dis_blk O44 O14 (by decide) (by decide) (by decide)) (Or.inl ⟨a_, ha_, hb_⟩))
      have O15 := O15.app e314 (fun a_ b_ ha_ hb_ hab_ => (OwnW.dis_type O44 O15 (by decide) (by decide) (by decide)) _ (Or.inl ⟨b_, hb_, rfl⟩) ⟨a_, ha_, hab_⟩)
      have N44_17_ := dis_app N44_17 N53_17 e314 O17
      have O17 := O17.app e314 (fun a_ b_ ha_ hb_ hab_ => N44_17 _ (Or.inl ⟨b_, hb_, rfl⟩) ⟨a_, ha_, hab_⟩)
      have N44_17 := N44_17_
      have N44_47_ := disb_app N44_47 N53_47 e314 O47
      have O47 := O47.app e314 (fun a_ ha_ hb_ => N44_47 (Or.inl ⟨a_, ha_, hb_⟩))
      have N44_47 := N44_47_
      have hsz44_ := hS271.size
      have hS271 := hS271.app e314 (fun g h_ => (Or.inr h_))
      have hB := eappW hB e314 O44
      have O44 := P44
      refine ⟨sameBut_chg hS271, ?_⟩
      refine stBlk O14 (o := 1) (cs' := #[(.slice A26 xs25.length c27), (.slice A311 (((xs241 ++ ([r294] : List D.Warp))).length) c312), (.slice A33 xs32.length c34), (.int .i64 i244), (.int .i64 i245)]) rfl rfl (Nat.le_of_ble_eq_true rfl) rfl (fun w316 P14 e317 => ?_)
      have O4_ := O4.chg e317 N4_14
      have O5_ := O5.chg e317 N5_14
      have O15_ := O15.chg e317 (O15.apart_type O14 (by decide))
      have O17_ := O17.chg e317 (O17.apart_type O14 (by decide))
      have O44_ := O44.chg e317 (OwnW.dis_blk O44 O14 (by decide) (by decide) (by decide))
      have O47_ := O47.chg e317 (N14_47).symm
      have O4 := O4_
      have O5 := O5_
      have O15 := O15_
      have O17 := O17_
      have O44 := O44_
      have O47 := O47_
      have hB := echg hB e317 L14
      have O14 := P14
      obtain ⟨m318, hm319, hJ320⟩ := H
      exact ⟨m318, hm319, (IntKind.wrap .i64 (i239 + 1)), (xs241 ++ ([r294] : List D.Warp)), i244, i245, A311, c312, (fun g => F240 g ∨ (fun g => InB A299 g ∨ InB A301 g) g), rfl, hJ320, hB, O14, O44, O4, O5, O15, O17, N44_17⟩
    · have H := (bcase_iff.1 H).2 hc323
      refine ⟨_, _, _, (O14.at 0 rfl rfl), ?_⟩
      refine ⟨_, _, _, (O14.at 1 rfl rfl), ?_⟩
      refine ⟨_, _, _, (O14.at 2 rfl rfl), ?_⟩
      refine ⟨_, (O14.at 3 rfl rfl), ?_⟩
      refine ⟨_, (O14.at 4 rfl rfl), ?_⟩
      refine stBlk O5 (o := 0) (cs' := #[(.slice A26 xs25.length c27), (.slice A242 xs241.length c243), (.slice A33 xs32.length c34), (.int .i64 i244), (.int .i64 i245)]) rfl rfl (Nat.le_of_ble_eq_true rfl) rfl (fun w321 P5 e322 => ?_)
      have O4_ := O4.chg e322 N4_5
      have O14_ := O14.chg e322 (N5_14).symm
      have O15_ := O15.chg e322 (O15.apart_type O5 (by decide))
      have O17_ := O17.chg e322 (O17.apart_type O5 (by decide))
      have O44_ := O44.chg e322 (OwnW.dis_blk O44 O5 (by decide) (by decide) (by decide))
      have O4 := O4_
      have O14 := O14_
      have O15 := O15_
      have O17 := O17_
      have O44 := O44_
      have hB := echg hB e322 L5
      have O5 := P5
      refine ⟨_, _, _, (O5.at 0 rfl rfl), ?_⟩
      refine ⟨_, _, _, (O5.at 1 rfl rfl), ?_⟩
      refine ⟨_, _, _, (O5.at 2 rfl rfl), ?_⟩
      refine ⟨_, (O5.at 3 rfl rfl), ?_⟩
      refine ⟨_, (O5.at 4 rfl rfl), ?_⟩
      obtain rfl := hr.trans H.symm
      exact ⟨A26, c27, A242, c243, F240, A33, c34, rfl, O15, O44, O17, N44_17, hB⟩

def impl_WithMemory.vc (A0_0 : Option Addr) (n0_0 : Nat) (c0_0 : Nat) (A0_1 : Option Addr) (n0_1 : Nat) (c0_1 : Nat) (A0_2 : Option Addr) (n0_2 : Nat) (c0_2 : Nat) (x0_3 : Int) (x0_4 : Int) (A1 : Option Addr) (n1 : Nat) (c1 : Nat) (w : World) (K : Value → World → Prop) : Prop :=
  newK w (.cells #[(.slice A0_0 n0_0 c0_0), (.slice A0_1 n0_1 c0_1), (.slice A0_2 n0_2 c0_2), (.int .i64 x0_3), (.int .i64 x0_4)] 48) fun g21 w22 => newK w22 (.cells #[(.slice none 0 0), (.slice none 0 0), (.slice none 0 0), (.int .i64 0), (.int .i64 0)] 48) fun g23 w24 => ∃ (A25 : Option Addr) (n26 : Nat) (c27 : Nat), w24.cell? ((⟨g21, 0, none⟩ : Addr).add 0) = some (.slice A25 n26 c27) ∧ ∃ (A28 : Option Addr) (n29 : Nat) (c30 : Nat), w24.cell? ((⟨g21, 0, none⟩ : Addr).add 1) = some (.slice A28 n29 c30) ∧ ∃ (A31 : Option Addr) (n32 : Nat) (c33 : Nat), w24.cell? ((⟨g21, 0, none⟩ : Addr).add 2) = some (.slice A31 n32 c33) ∧ ∃ (n34 : Int), w24.cell? ((⟨g21, 0, none⟩ : Addr).add 3) = some (.int .i64 n34) ∧ ∃ (n35 : Int), w24.cell? ((⟨g21, 0, none⟩ : Addr).add 4) = some (.int .i64 n35) ∧ Cll Try.prog 74 #[(.agg #[(.slice A25 n26 c27), (.slice A28 n29 c30), (.slice A31 n32 c33), (.int .i64 n34), (.int .i64 n35)])] w24 fun v36 w37 => (∃ (A38 : Option Addr) (n39 : Nat) (c40 : Nat), True ∧ ∃ (A41 : Option Addr) (n42 : Nat) (c43 : Nat), True ∧ ∃ (A44 : Option Addr) (n45 : Nat) (c46 : Nat), True ∧ ∃ (n47 : Int), True ∧ ∃ (n48 : Int), True ∧ v36 = (.agg #[(.slice A38 n39 c40), (.slice A41 n42 c43), (.slice A44 n45 c46), (.int .i64 n47), (.int .i64 n48)]) ∧ newK w37 (.cells #[(.slice none 0 0), (.slice none 0 0), (.slice none 0 0), (.int .i64 0), (.int .i64 0)] 48) fun g49 w50 => stCells (⟨g49, 0, none⟩ : Addr) [(.slice A38 n39 c40), (.slice A41 n42 c43), (.slice A44 n45 c46), (.int .i64 n47), (.int .i64 n48)] 0 w50 fun w51 => ∃ (A53 : Option Addr) (n54 : Nat) (c55 : Nat), w51.cell? ((⟨g21, 0, none⟩ : Addr).add 0) = some (.slice A53 n54 c55) ∧ ∃ (A56 : Option Addr) (n57 : Nat) (c58 : Nat), w51.cell? ((⟨g21, 0, none⟩ : Addr).add 1) = some (.slice A56 n57 c58) ∧ ∃ (A59 : Option Addr) (n60 : Nat) (c61 : Nat), w51.cell? ((⟨g21, 0, none⟩ : Addr).add 2) = some (.slice A59 n60 c61) ∧ ∃ (n62 : Int), w51.cell? ((⟨g21, 0, none⟩ : Addr).add 3) = some (.int .i64 n62) ∧ ∃ (n63 : Int), w51.cell? ((⟨g21, 0, none⟩ : Addr).add 4) = some (.int .i64 n63) ∧ Cll Try.prog 32 #[(.agg #[(.slice A53 n54 c55), (.slice A56 n57 c58), (.slice A59 n60 c61), (.int .i64 n62), (.int .i64 n63)])] w51 fun v64 w65 => (∃ (b66 : Bool), v64 = (.bool b66) ∧ bcase (!b66) (∃ (A67 : Option Addr) (n68 : Nat) (c69 : Nat), w65.cell? ((⟨g49, 0, none⟩ : Addr).add 0) = some (.slice A67 n68 c69) ∧ ∃ (A70 : Option Addr) (n71 : Nat) (c72 : Nat), w65.cell? ((⟨g49, 0, none⟩ : Addr).add 1) = some (.slice A70 n71 c72) ∧ ∃ (A73 : Option Addr) (n74 : Nat) (c75 : Nat), w65.cell? ((⟨g49, 0, none⟩ : Addr).add 2) = some (.slice A73 n74 c75) ∧ ∃ (n76 : Int), w65.cell? ((⟨g49, 0, none⟩ : Addr).add 3) = some (.int .i64 n76) ∧ ∃ (n77 : Int), w65.cell? ((⟨g49, 0, none⟩ : Addr).add 4) = some (.int .i64 n77) ∧ stCells (⟨g23, 0, none⟩ : Addr) [(.slice A67 n68 c69), (.slice A70 n71 c72), (.slice A73 n74 c75), (.int .i64 n76), (.int .i64 n77)] 0 w65 fun w78 => ∃ (A79 : Option Addr) (n80 : Nat) (c81 : Nat), w78.cell? ((⟨g23, 0, none⟩ : Addr).add 0) = some (.slice A79 n80 c81) ∧ ∃ (A82 : Option Addr) (n83 : Nat) (c84 : Nat), w78.cell? ((⟨g23, 0, none⟩ : Addr).add 1) = some (.slice A82 n83 c84) ∧ ∃ (A85 : Option Addr) (n86 : Nat) (c87 : Nat), w78.cell? ((⟨g23, 0, none⟩ : Addr).add 2) = some (.slice A85 n86 c87) ∧ ∃ (n88 : Int), w78.cell? ((⟨g23, 0, none⟩ : Addr).add 3) = some (.int .i64 n88) ∧ ∃ (n89 : Int), w78.cell? ((⟨g23, 0, none⟩ : Addr).add 4) = some (.int .i64 n89) ∧ K (.tuple #[(.agg #[(.slice A79 n80 c81), (.slice A82 n83 c84), (.slice A85 n86 c87), (.int .i64 n88), (.int .i64 n89)]), (.bool false)]) w78) (Cll Try.prog 75 #[(.slice A1 n1 c1)] w65 fun v90 w91 => (∃ (b92 : Bool), v90 = (.bool b92) ∧ bcase (!b92) (∃ (A93 : Option Addr) (n94 : Nat) (c95 : Nat), w91.cell? ((⟨g49, 0, none⟩ : Addr).add 0) = some (.slice A93 n94 c95) ∧ ∃ (A96 : Option Addr) (n97 : Nat) (c98 : Nat), w91.cell? ((⟨g49, 0, none⟩ : Addr).add 1) = some (.slice A96 n97 c98) ∧ ∃ (A99 : Option Addr) (n100 : Nat) (c101 : Nat), w91.cell? ((⟨g49, 0, none⟩ : Addr).add 2) = some (.slice A99 n100 c101) ∧ ∃ (n102 : Int), w91.cell? ((⟨g49, 0, none⟩ : Addr).add 3) = some (.int .i64 n102) ∧ ∃ (n103 : Int), w91.cell? ((⟨g49, 0, none⟩ : Addr).add 4) = some (.int .i64 n103) ∧ stCells (⟨g23, 0, none⟩ : Addr) [(.slice A93 n94 c95), (.slice A96 n97 c98), (.slice A99 n100 c101), (.int .i64 n102), (.int .i64 n103)] 0 w91 fun w104 => ∃ (A105 : Option Addr) (n106 : Nat) (c107 : Nat), w104.cell? ((⟨g23, 0, none⟩ : Addr).add 0) = some (.slice A105 n106 c107) ∧ ∃ (A108 : Option Addr) (n109 : Nat) (c110 : Nat), w104.cell? ((⟨g23, 0, none⟩ : Addr).add 1) = some (.slice A108 n109 c110) ∧ ∃ (A111 : Option Addr) (n112 : Nat) (c113 : Nat), w104.cell? ((⟨g23, 0, none⟩ : Addr).add 2) = some (.slice A111 n112 c113) ∧ ∃ (n114 : Int), w104.cell? ((⟨g23, 0, none⟩ : Addr).add 3) = some (.int .i64 n114) ∧ ∃ (n115 : Int), w104.cell? ((⟨g23, 0, none⟩ : Addr).add 4) = some (.int .i64 n115) ∧ K (.tuple #[(.agg #[(.slice A105 n106 c107), (.slice A108 n109 c110), (.slice A111 n112 c113), (.int .i64 n114), (.int .i64 n115)]), (.bool false)]) w104) (Cll Try.prog 76 #[(.slice A1 n1 c1)] w91 fun v116 w117 => (∃ (A118 : Option Addr) (n119 : Nat) (c120 : Nat), v116 = (.slice A118 n119 c120) ∧ stCells ((⟨g49, 0, none⟩ : Addr).add 2) [(.slice A118 n119 c120)] 0 w117 fun w121 => ∃ (A122 : Option Addr) (n123 : Nat) (c124 : Nat), w121.cell? ((⟨g49, 0, none⟩ : Addr).add 0) = some (.slice A122 n123 c124) ∧ ∃ (A125 : Option Addr) (n126 : Nat) (c127 : Nat), w121.cell? ((⟨g49, 0, none⟩ : Addr).add 1) = some (.slice A125 n126 c127) ∧ ∃ (A128 : Option Addr) (n129 : Nat) (c130 : Nat), w121.cell? ((⟨g49, 0, none⟩ : Addr).add 2) = some (.slice A128 n129 c130) ∧ ∃ (n131 : Int), w121.cell? ((⟨g49, 0, none⟩ : Addr).add 3) = some (.int .i64 n131) ∧ ∃ (n132 : Int), w121.cell? ((⟨g49, 0, none⟩ : Addr).add 4) = some (.int .i64 n132) ∧ stCells (⟨g23, 0, none⟩ : Addr) [(.slice A122 n123 c124), (.slice A125 n126 c127), (.slice A128 n129 c130), (.int .i64 n131), (.int .i64 n132)] 0 w121 fun w133 => ∃ (A134 : Option Addr) (n135 : Nat) (c136 : Nat), w133.cell? ((⟨g23, 0, none⟩ : Addr).add 0) = some (.slice A134 n135 c136) ∧ ∃ (A137 : Option Addr) (n138 : Nat) (c139 : Nat), w133.cell? ((⟨g23, 0, none⟩ : Addr).add 1) = some (.slice A137 n138 c139) ∧ ∃ (A140 : Option Addr) (n141 : Nat) (c142 : Nat), w133.cell? ((⟨g23, 0, none⟩ : Addr).add 2) = some (.slice A140 n141 c142) ∧ ∃ (n143 : Int), w133.cell? ((⟨g23, 0, none⟩ : Addr).add 3) = some (.int .i64 n143) ∧ ∃ (n144 : Int), w133.cell? ((⟨g23, 0, none⟩ : Addr).add 4) = some (.int .i64 n144) ∧ K (.tuple #[(.agg #[(.slice A134 n135 c136), (.slice A137 n138 c139), (.slice A140 n141 c142), (.int .i64 n143), (.int .i64 n144)]), (.bool true)]) w133))))))

def impl_WithMemory.ann : Ann := (.seq .l (.seq .l (.seq (.seq .l (.two (.seq .l .l) .l)) (.seq .l (.seq .l .l)))))

theorem impl_WithMemory.vc_eq (A0_0 : Option Addr) (n0_0 : Nat) (c0_0 : Nat) (A0_1 : Option Addr) (n0_1 : Nat) (c0_1 : Nat) (A0_2 : Option Addr) (n0_2 : Nat) (c0_2 : Nat) (x0_3 : Int) (x0_4 : Int) (A1 : Option Addr) (n1 : Nat) (c1 : Nat) (w : World) (K : Value → World → Prop) : vcF Try.prog Try.f31 impl_WithMemory.ann [(.agg #[(.slice A0_0 n0_0 c0_0), (.slice A0_1 n0_1 c0_1), (.slice A0_2 n0_2 c0_2), (.int .i64 x0_3), (.int .i64 x0_4)]), (.slice A1 n1 c1)] K w = impl_WithMemory.vc A0_0 n0_0 c0_0 A0_1 n0_1 c0_1 A0_2 n0_2 c0_2 x0_3 x0_4 A1 n1 c1 w K := by kernel_rfl

theorem impl_WithMemory.start {A0_0 : Option Addr} {n0_0 : Nat} {c0_0 : Nat} {A0_1 : Option Addr} {n0_1 : Nat} {c0_1 : Nat} {A0_2 : Option Addr} {n0_2 : Nat} {c0_2 : Nat} {x0_3 : Int} {x0_4 : Int} {A1 : Option Addr} {n1 : Nat} {c1 : Nat} {w : World} {K : Value → World → Prop} (h : impl_WithMemory.vc A0_0 n0_0 c0_0 A0_1 n0_1 c0_1 A0_2 n0_2 c0_2 x0_3 x0_4 A1 n1 c1 w K) : Cll Try.prog 31 #[(.agg #[(.slice A0_0 n0_0 c0_0), (.slice A0_1 n0_1 c0_1), (.slice A0_2 n0_2 c0_2), (.int .i64 x0_3), (.int .i64 x0_4)]), (.slice A1 n1 c1)] w K :=
  vcF_sound mixed (fn := Try.f31) (by kernel_rfl) (by kernel_rfl) (an := impl_WithMemory.ann) (args := [(.agg #[(.slice A0_0 n0_0 c0_0), (.slice A0_1 n0_1 c0_1), (.slice A0_2 n0_2 c0_2), (.int .i64 x0_3), (.int .i64 x0_4)]), (.slice A1 n1 c1)]) (by rw [impl_WithMemory.vc_eq]; exact h)

theorem impl_WithMemory.con {s0 : D.Block} {A0_0 : Option Addr} {c0_0 : Nat} {A0_1 : Option Addr} {c0_1 : Nat} {A0_2 : Option Addr} {c0_2 : Nat} {xs1 : List Int} {A1 : Option Addr} {c1 : Nat} {r : D.Block × Bool} {w : World} (hp : M.impl_WithMemory_pre s0 xs1) (hr : r = M.impl_WithMemory s0 xs1) (R0_0 : Row el99 w A0_0 s0.Code) (hc0_0 : s0.Code.length ≤ c0_0) (R0_1 : RowW 96 el134 el3 w A0_1 s0.Warps) (hc0_1 : s0.Warps.length ≤ c0_1) (R0_2 : Row el3 w A0_2 s0.Memory) (hc0_2 : s0.Memory.length ≤ c0_2) (R1 : Row el3 w A1 xs1) (hc1 : xs1.length ≤ c1) :
    Cll Try.prog 31 #[(.agg #[(.slice A0_0 s0.Code.length c0_0), (.slice A0_1 s0.Warps.length c0_1), (.slice A0_2 s0.Memory.length c0_2), (.int .i64 s0.Waiting), (.int .i64 s0.Phase)]), (.slice A1 xs1.length c1)] w (fun v_ w_ => ∃ (A0_ : Option Addr) (c0_ : Nat) (A1_ : Option Addr) (c1_ : Nat) (F1_ : Nat → Prop) (A2_ : Option Addr) (c2_ : Nat), v_ = (.tuple #[(.agg #[(.slice A0_ r.1.Code.length c0_), (.slice A1_ r.1.Warps.length c1_), (.slice A2_ r.1.Memory.length c2_), (.int .i64 r.1.Waiting), (.int .i64 r.1.Phase)]), (.bool r.2)]) ∧ Own el99 w_ w.heap.size A0_ c0_ r.1.Code ∧ OwnW 96 el134 el3 w_ w.heap.size F1_ A1_ c1_ r.1.Warps ∧ Own el3 w_ w.heap.size A2_ c2_ r.1.Memory ∧ Dis (InW A1_ F1_) (InB A2_) ∧ Ext w w_) := by
  have H := wp.impl_WithMemory.math s0 xs1 hp
  have hB := Ext.refl w
  refine impl_WithMemory.start ?_
  unfold impl_WithMemory.vc
  unfold wp.impl_WithMemory at H
  refine newBlk (fun g5_ w21 L5 P5 e22 => ?_)
  have O5 := P5
  have L5 := Nat.le_trans hB.size L5
  have hB := ethen hB e22
  refine newBlk (fun g6_ w23 L6 P6 e24 => ?_)
  have N5_6 := O5.ne L6
  have O5 := O5.ext e24
  have O6 := P6
  have L6 := Nat.le_trans hB.size L6
  have hB := ethen hB e24
  refine ⟨_, _, _, (O5.at 0 rfl rfl), ?_⟩
  refine ⟨_, _, _, (O5.at 1 rfl rfl), ?_⟩
  refine ⟨_, _, _, (O5.at 2 rfl rfl), ?_⟩
  refine ⟨_, (O5.at 3 rfl rfl), ?_⟩
  refine ⟨_, (O5.at 4 rfl rfl), ?_⟩
  obtain ⟨hp27, H⟩ := H
  obtain ⟨r25, hr26⟩ : ∃ r_, r_ = M.impl_copyBlock s0 := ⟨_, rfl⟩
  have H := H r25 hr26
  refine (impl_copyBlock.con hp27 hr26 (R0_0.ext hB) hc0_0 (R0_1.ext hB) hc0_1 (R0_2.ext hB) hc0_2).mono ?_
  rintro _ w28 ⟨A30, c31, A32, c33, F36, A34, c35, rfl, P7, P8, P9, N8_9, e29⟩
  have N7_5 := P7.apart_old O5.lt
  have N7_6 := P7.apart_old O6.lt
  have N8_5 := P8.new_disbox O5 (Nat.le_refl _)
  have N8_6 := P8.new_disbox O6 (Nat.le_refl _)
  have N9_5 := P9.apart_old O5.lt
  have N9_6 := P9.apart_old O6.lt
  have O5 := O5.ext e29
  have O6 := O6.ext e29
  have O7 := P7.mono hB.size
  have O8 := P8.mono hB.size
  have O9 := P9.mono hB.size
  have hB := ethen hB e29
  refine ⟨A30, r25.Code.length, c31, trivial, ?_⟩
  refine ⟨A32, r25.Warps.length, c33, trivial, ?_⟩
  refine ⟨A34, r25.Memory.length, c35, trivial, ?_⟩
  refine ⟨r25.Waiting, trivial, ?_⟩
  refine ⟨r25.Phase, trivial, ?_⟩
  refine ⟨rfl, ?_⟩
  refine newBlk (fun g10_ w37 L10 P10 e38 => ?_)
  have N5_10 := O5.ne L10
  have N6_10 := O6.ne L10
  have N7_10 := O7.apart_new L10
  have N8_10 := O8.dis_newbox L10
  have N9_10 := O9.apart_new L10
  have O5 := O5.ext e38
  have O6 := O6.ext e38
  have O7 := O7.ext e38
  have O8 := O8.ext e38
  have O9 := O9.ext e38
  have O10 := P10
  have L10 := Nat.le_trans hB.size L10
  have hB := ethen hB e38
  refine stBlk O10 (o := 0) (cs' := #[(.slice A30 r25.Code.length c31), (.slice A32 r25.Warps.length c33), (.slice A34 r25.Memory.length c35), (.int .i64 r25.Waiting), (.int .i64 r25.Phase)]) rfl rfl (Nat.le_of_ble_eq_true rfl) rfl (fun w39 P10 e40 => ?_)
  have O5_ := O5.chg e40 N5_10
  have O6_ := O6.chg e40 N6_10
  have O7_ := O7.chg e40 N7_10
  have O8_ := O8.chg e40 N8_10
  have O9_ := O9.chg e40 N9_10
  have O5 := O5_
  have O6 := O6_
  have O7 := O7_
  have O8 := O8_
  have O9 := O9_
  have hB := echg hB e40 L10
  have O10 := P10
  refine ⟨_, _, _, (O5.at 0 rfl rfl), ?_⟩
  refine ⟨_, _, _, (O5.at 1 rfl rfl), ?_⟩
  refine ⟨_, _, _, (O5.at 2 rfl rfl), ?_⟩
  refine ⟨_, (O5.at 3 rfl rfl), ?_⟩
  refine ⟨_, (O5.at 4 rfl rfl), ?_⟩
  obtain ⟨hp43, H⟩ := H
  obtain ⟨r41, hr42⟩ : ∃ r_, r_ = M.impl_BlockOk s0 := ⟨_, rfl⟩
  have H := H r41 hr42
  refine (impl_BlockOk.con hp43 hr42 (R0_0.ext hB) hc0_0 (R0_1.ext hB) hc0_1 (R0_2.ext hB) hc0_2).mono ?_
  rintro _ w44 ⟨rfl, e45⟩
  have O5 := O5.ext e45
  have O6 := O6.ext e45
  have O7 := O7.ext e45
  have O8 := O8.ext e45
  have O9 := O9.ext e45
  have O10 := O10.ext e45
  have hB := ethen hB e45
  refine ⟨r41, rfl, ?_⟩
  refine bcase_mk (fun hc67 => ?_) (fun hc67 => ?_)
  · have H := (bcase_iff.1 H).1 hc67
    refine ⟨_, _, _, (O10.at 0 rfl rfl), ?_⟩
    refine ⟨_, _, _, (O10.at 1 rfl rfl), ?_⟩
    refine ⟨_, _, _, (O10.at 2 rfl rfl), ?_⟩
    refine ⟨_, (O10.at 3 rfl rfl), ?_⟩
    refine ⟨_, (O10.at 4 rfl rfl), ?_⟩
    refine stBlk O6 (o := 0) (cs' := #[(.slice A30 r25.Code.length c31), (.slice A32 r25.Warps.length c33), (.slice A34 r25.Memory.length c35), (.int .i64 r25.Waiting), (.int .i64 r25.Phase)]) rfl rfl (Nat.le_of_ble_eq_true rfl) rfl (fun w46 P6 e47 => ?_)
    have O5_ := O5.chg e47 N5_6
    have O7_ := O7.chg e47 N7_6
    have O8_ := O8.chg e47 N8_6
    have O9_ := O9.chg e47 N9_6
    have O10_ := O10.chg e47 (N6_10).symm
    have O5 := O5_
    have O7 := O7_
    have O8 := O8_
    have O9 := O9_
    have O10 := O10_
    have hB := echg hB e47 L6
    have O6 := P6
    refine ⟨_, _, _, (O6.at 0 rfl rfl), ?_⟩
    refine ⟨_, _, _, (O6.at 1 rfl rfl), ?_⟩
    refine ⟨_, _, _, (O6.at 2 rfl rfl), ?_⟩
    refine ⟨_, (O6.at 3 rfl rfl), ?_⟩
    refine ⟨_, (O6.at 4 rfl rfl), ?_⟩
    obtain rfl := hr.trans H.symm
    exact ⟨A30, c31, A32, c33, F36, A34, c35, rfl, O7, O8, O9, N8_9, hB⟩
  · have H := (bcase_iff.1 H).2 hc67
    obtain ⟨hp50, H⟩ := H
    obtain ⟨r48, hr49⟩ : ∃ r_, r_ = M.impl_isMemory xs1 := ⟨_, rfl⟩
    have H := H r48 hr49
    refine (impl_isMemory.con hp50 hr49 (R1.ext hB) hc1).mono ?_
    rintro _ w51 ⟨rfl, e52⟩
    have O5 := O5.ext e52
    have O6 := O6.ext e52
    have O7 := O7.ext e52
    have O8 := O8.ext e52
    have O9 := O9.ext e52
    have O10 := O10.ext e52
    have hB := ethen hB e52
    refine ⟨r48, rfl, ?_⟩
    refine bcase_mk (fun hc66 => ?_) (fun hc66 => ?_)
    · have H := (bcase_iff.1 H).1 hc66
      refine ⟨_, _, _, (O10.at 0 rfl rfl), ?_⟩
      refine ⟨_, _, _, (O10.at 1 rfl rfl), ?_⟩
      refine ⟨_, _, _, (O10.at 2 rfl rfl), ?_⟩
      refine ⟨_, (O10.at 3 rfl rfl), ?_⟩
      refine ⟨_, (O10.at 4 rfl rfl), ?_⟩
      refine stBlk O6 (o := 0) (cs' := #[(.slice A30 r25.Code.length c31), (.slice A32 r25.Warps.length c33), (.slice A34 r25.Memory.length c35), (.int .i64 r25.Waiting), (.int .i64 r25.Phase)]) rfl rfl (Nat.le_of_ble_eq_true rfl) rfl (fun w53 P6 e54 => ?_)
      have O5_ := O5.chg e54 N5_6
      have O7_ := O7.chg e54 N7_6
      have O8_ := O8.chg e54 N8_6
      have O9_ := O9.chg e54 N9_6
      have O10_ := O10.chg e54 (N6_10).symm
      have O5 := O5_
      have O7 := O7_
      have O8 := O8_
      have O9 := O9_
      have O10 := O10_
      have hB := echg hB e54 L6
      have O6 := P6
      refine ⟨_, _, _, (O6.at 0 rfl rfl), ?_⟩
      refine ⟨_, _, _, (O6.at 1 rfl rfl), ?_⟩
      refine ⟨_, _, _, (O6.at 2 rfl rfl), ?_⟩
      refine ⟨_, (O6.at 3 rfl rfl), ?_⟩
      refine ⟨_, (O6.at 4 rfl rfl), ?_⟩
      obtain rfl := hr.trans H.symm
      exact ⟨A30, c31, A32, c33, F36, A34, c35, rfl, O7, O8, O9, N8_9, hB⟩
    · have H := (bcase_iff.1 H).2 hc66
      obtain ⟨hp57, H⟩ := H
      obtain ⟨r55, hr56⟩ : ∃ r_, r_ = M.slices_Clone_int_int xs1 := ⟨_, rfl⟩
      have H := H r55 hr56
      refine (slices_Clone_int_int.con hp57 hr56 (R1.ext hB) hc1).mono ?_
      rintro _ w58 ⟨A60, c61, rfl, P11, e59⟩
      have N11_5 := P11.apart_old O5.lt
      have N11_6 := P11.apart_old O6.lt
      have N7_11 := Own.apart2_new O7 P11 (Nat.le_refl _)
      have N8_11 := O8.dis_new P11 (Nat.le_refl _)
      have N9_11 := Own.apart2_new O9 P11 (Nat.le_refl _)
      have N11_10 := P11.apart_old O10.lt
      have O5 := O5.ext e59
      have O6 := O6.ext e59
      have O7 := O7.ext e59
      have O8 := O8.ext e59
      have O9 := O9.ext e59
      have O10 := O10.ext e59
      have O11 := P11.mono hB.size
      have hB := ethen hB e59
      refine ⟨A60, r55.length, c61, rfl, ?_⟩
      refine stBlk O10 (o := 2) (cs' := #[(.slice A30 r25.Code.length c31), (.slice A32 r25.Warps.length c33), (.slice A60 r55.length c61), (.int .i64 r25.Waiting), (.int .i64 r25.Phase)]) rfl rfl (Nat.le_of_ble_eq_true rfl) rfl (fun w62 P10 e63 => ?_)
      have O5_ := O5.chg e63 N5_10
      have O6_ := O6.chg e63 N6_10
      have O7_ := O7.chg e63 N7_10
      have O8_ := O8.chg e63 N8_10
      have O9_ := O9.chg e63 N9_10
      have O11_ := O11.chg e63 N11_10
      have O5 := O5_
      have O6 := O6_
      have O7 := O7_
      have O8 := O8_
      have O9 := O9_
      have O11 := O11_
      have hB := echg hB e63 L10
      have O10 := P10
      refine ⟨_, _, _, (O10.at 0 rfl rfl), ?_⟩
      refine ⟨_, _, _, (O10.at 1 rfl rfl), ?_⟩
      refine ⟨_, _, _, (O10.at 2 rfl rfl), ?_⟩
      refine ⟨_, (O10.at 3 rfl rfl), ?_⟩
      refine ⟨_, (O10.at 4 rfl rfl), ?_⟩
      refine stBlk O6 (o := 0) (cs' := #[(.slice A30 r25.Code.length c31), (.slice A32 r25.Warps.length c33), (.slice A60 r55.length c61), (.int .i64 r25.Waiting), (.int .i64 r25.Phase)]) rfl rfl (Nat.le_of_ble_eq_true rfl) rfl (fun w64 P6 e65 => ?_)
      have O5_ := O5.chg e65 N5_6
      have O7_ := O7.chg e65 N7_6
      have O8_ := O8.chg e65 N8_6
      have O9_ := O9.chg e65 N9_6
      have O10_ := O10.chg e65 (N6_10).symm
      have O11_ := O11.chg e65 N11_6
      have O5 := O5_
      have O7 := O7_
      have O8 := O8_
      have O9 := O9_
      have O10 := O10_
      have O11 := O11_
      have hB := echg hB e65 L6
      have O6 := P6
      refine ⟨_, _, _, (O6.at 0 rfl rfl), ?_⟩
      refine ⟨_, _, _, (O6.at 1 rfl rfl), ?_⟩
      refine ⟨_, _, _, (O6.at 2 rfl rfl), ?_⟩
      refine ⟨_, (O6.at 3 rfl rfl), ?_⟩
      refine ⟨_, (O6.at 4 rfl rfl), ?_⟩
      obtain rfl := hr.trans H.symm
      exact ⟨A30, c31, A32, c33, F36, A60, c61, rfl, O7, O8, O11, N8_11, hB⟩

def laws_markFrameS.vc (A0 : Option Addr) (n0 : Nat) (c0 : Nat) (x1 : Int) (w : World) (K : Value → World → Prop) : Prop :=
  LoopT (σ := Int × Int × Unit) (fun z21 w22 next23 => bcase (decide (z21.2.1 < ((n0 : Nat) : Int))) (((0 : Int) ≤ z21.2.1 ∧ z21.2.1 < ((n0 : Nat) : Int) ∧ ∃ a24 : Addr, A0 = some a24 ∧ stCells ((a24.add ((z21.2.1.toNat) * 3)).add 0) [(.int .i64 z21.1)] 0 w22 fun w25 => ((0 : Int) ≤ z21.2.1 ∧ z21.2.1 < ((n0 : Nat) : Int) ∧ ∃ a26 : Addr, A0 = some a26 ∧ stCells ((a26.add ((z21.2.1.toNat) * 3)).add 1) [(.int .i64 (IntKind.wrap .i64 (z21.1 + 1)))] 0 w25 fun w27 => ((0 : Int) ≤ z21.2.1 ∧ z21.2.1 < ((n0 : Nat) : Int) ∧ ∃ a28 : Addr, A0 = some a28 ∧ stCells ((a28.add ((z21.2.1.toNat) * 3)).add 2) [(.int .i64 (IntKind.wrap .i64 ((IntKind.wrap .i64 (z21.1 + 1)) + 1)))] 0 w27 fun w29 => next23 ((IntKind.wrap .i64 ((IntKind.wrap .i64 ((IntKind.wrap .i64 (z21.1 + 1)) + 1)) + 1)), (IntKind.wrap .i64 (z21.2.1 + 1)), ()) w29)))) (K (.int .i64 z21.1) w22)) (x1, 0, ()) w

def laws_markFrameS.ann : Ann := (.seq .l (.seq (.seq .l (.one (.loop [(1, .int .i64), (5, .int .i64)] (.seq (.seq .l (.two .l .l)) (.seq (.one (.seq .l (.seq .l (.seq .l (.seq .l (.seq .l .l)))))) .l))))) (.seq .l .l)))

theorem laws_markFrameS.vc_eq (A0 : Option Addr) (n0 : Nat) (c0 : Nat) (x1 : Int) (w : World) (K : Value → World → Prop) : vcF Try.prog Try.f137 laws_markFrameS.ann [(.slice A0 n0 c0), (.int .i64 x1)] K w = laws_markFrameS.vc A0 n0 c0 x1 w K := by kernel_rfl

theorem laws_markFrameS.start {A0 : Option Addr} {n0 : Nat} {c0 : Nat} {x1 : Int} {w : World} {K : Value → World → Prop} (h : laws_markFrameS.vc A0 n0 c0 x1 w K) : Cll Try.prog 137 #[(.slice A0 n0 c0), (.int .i64 x1)] w K :=
  vcF_sound mixed (fn := Try.f137) (by kernel_rfl) (by kernel_rfl) (an := laws_markFrameS.ann) (args := [(.slice A0 n0 c0), (.int .i64 x1)]) (by rw [laws_markFrameS.vc_eq]; exact h)

theorem laws_markFrameS.con {xs0 : List D.Frame} {A0 : Option Addr} {c0 : Nat} {x1 : Int} {r : Int × (List D.Frame)} {w : World} (hp : M.laws_markFrameS_pre xs0 x1) (hr : r = M.laws_markFrameS xs0 x1) (O1 : Own el134 w 0 A0 c0 xs0) :
    Cll Try.prog 137 #[(.slice A0 xs0.length c0), (.int .i64 x1)] w (fun v_ w_ => v_ = (.int .i64 r.1) ∧ Own el134 w_ 0 A0 c0 r.2 ∧ r.2.length = xs0.length ∧ Chg (InB A0) w w_) := by
  have H := wp.laws_markFrameS.math xs0 x1 hp
  have hB := Chg.refl (InB A0) w
  refine laws_markFrameS.start ?_
  unfold laws_markFrameS.vc
  unfold wp.laws_markFrameS at H
  obtain ⟨J59, ⟨m95, hJ94⟩, hS60⟩ := H
  refine ⟨fun m_ z_ w_ => ∃ (i54 : Int) (i55 : Int) (xs56 : List D.Frame), z_ = (i54, i55, ()) ∧ J59 m_ (i54, i55, xs56, ()) ∧ Chg (InB A0) w w_ ∧ Own el134 w_ 0 A0 c0 xs56 ∧ xs0.length = xs56.length, ⟨m95, x1, 0, xs0, rfl, hJ94, hB, O1, (by first | rfl | assumption | (simp; done) | (simp; omega) | (simp; assumption))⟩, ?_⟩
  rintro m58 _ w62 ⟨i54, i55, xs56, rfl, hJ96, hB, O1, hn57⟩
  have H := hS60 m58 _ hJ96
  clear hS60 hJ96
  dsimp only at H ⊢
  refine bcase_mk (fun hc92 => ?_) (fun hc92 => ?_)
  · have H := (bcase_iff.1 H).1 hc92
    obtain ⟨⟨h0_66, h1_67⟩, H⟩ := H
    obtain ⟨a64, ha65, hat63⟩ := Row.at O1.row h0_66 h1_67
    refine ⟨h0_66, (by first | exact h1_67 | omega | (simp at h1_67 ⊢; omega)), a64, ha65, ?_⟩
    refine Own.storeAt O1 ha65 h0_66 h1_67 0 [(.int .i64 i54)] (⟨i54, (rd xs56 i55).Stop, (rd xs56 i55).Mask⟩ : D.Frame) rfl (Nat.le_of_ble_eq_true rfl) rfl (fun w68 P1 e69 hb70 => ?_)
    have hB := hB.chgb e69 (Or.inr ⟨_, ha65, rfl⟩)
    have O1 := P1
    obtain ⟨⟨h0_74, h1_75⟩, H⟩ := H
    obtain ⟨a72, ha73, hat71⟩ := Row.at O1.row h0_74 h1_75
    refine ⟨h0_74, (by first | exact h1_75 | omega | (simp at h1_75 ⊢; omega)), a72, ha73, ?_⟩
    have hrd79 := rd_set h0_74 h1_75
    refine Own.storeAt O1 ha73 h0_74 h1_75 1 [(.int .i64 (IntKind.wrap .i64 (i54 + 1)))] (⟨i54, (IntKind.wrap .i64 (i54 + 1)), (rd xs56 i55).Mask⟩ : D.Frame) (by rw [hrd79]; rfl) (Nat.le_of_ble_eq_true rfl) rfl (fun w76 P1 e77 hb78 => ?_)
    rw [List.set_set] at P1
    have hB := hB.chgb e77 (Or.inr ⟨_, ha73, rfl⟩)
    have O1 := P1
    obtain ⟨⟨h0_83, h1_84⟩, H⟩ := H
    obtain ⟨a81, ha82, hat80⟩ := Row.at O1.row h0_83 h1_84
    refine ⟨h0_83, (by first | exact h1_84 | omega | (simp at h1_84 ⊢; omega)), a81, ha82, ?_⟩
    have hrd88 := rd_set h0_83 h1_84
    refine Own.storeAt O1 ha82 h0_83 h1_84 2 [(.int .i64 (IntKind.wrap .i64 ((IntKind.wrap .i64 (i54 + 1)) + 1)))] (⟨i54, (IntKind.wrap .i64 (i54 + 1)), (IntKind.wrap .i64 ((IntKind.wrap .i64 (i54 + 1)) + 1))⟩ : D.Frame) (by rw [hrd88]; rfl) (Nat.le_of_ble_eq_true rfl) rfl (fun w85 P1 e86 hb87 => ?_)
    rw [List.set_set] at P1
    have hB := hB.chgb e86 (Or.inr ⟨_, ha82, rfl⟩)
    have O1 := P1
    obtain ⟨m89, hm90, hJ91⟩ := H
    exact ⟨m89, hm90, (IntKind.wrap .i64 ((IntKind.wrap .i64 ((IntKind.wrap .i64 (i54 + 1)) + 1)) + 1)), (IntKind.wrap .i64 (i55 + 1)), (List.set xs56 (i55.toNat) (⟨i54, (IntKind.wrap .i64 (i54 + 1)), (IntKind.wrap .i64 ((IntKind.wrap .i64 (i54 + 1)) + 1))⟩ : D.Frame)), rfl, hJ91, hB, O1, (by first | rfl | assumption | (simp; done) | (simp; omega) | (simp; assumption))⟩
  · have H := (bcase_iff.1 H).2 hc92
    obtain rfl := hr.trans H.symm
    exact ⟨rfl, O1, (by first | (simp only [List.length_set]; done) | (simp only [List.length_set, ← hn57]; done) | (simp; done) | (simp; omega) | omega), hB⟩

def laws_markWarpS.vc (A0 : Option Addr) (n0 : Nat) (c0 : Nat) (x1 : Int) (w : World) (K : Value → World → Prop) : Prop :=
  LoopT (σ := Int × Int × Unit) (fun z21 w22 next23 => bcase (decide (z21.2.1 < ((n0 : Nat) : Int))) (((0 : Int) ≤ z21.2.1 ∧ z21.2.1 < ((n0 : Nat) : Int) ∧ ∃ a24 : Addr, A0 = some a24 ∧ stCells ((a24.add ((z21.2.1.toNat) * 3)).add 0) [(.int .i64 z21.1)] 0 w22 fun w25 => ((0 : Int) ≤ z21.2.1 ∧ z21.2.1 < ((n0 : Nat) : Int) ∧ ∃ a26 : Addr, A0 = some a26 ∧ ∃ (A27 : Option Addr) (n28 : Nat) (c29 : Nat), w25.cell? (((a26.add ((z21.2.1.toNat) * 3)).add 1).add 0) = some (.slice A27 n28 c29) ∧ Cll Try.prog 137 #[(.slice A27 n28 c29), (.int .i64 (IntKind.wrap .i64 (z21.1 + 1)))] w25 fun v30 w31 => (∃ (n32 : Int), v30 = (.int .i64 n32) ∧ ((0 : Int) ≤ z21.2.1 ∧ z21.2.1 < ((n0 : Nat) : Int) ∧ ∃ a33 : Addr, A0 = some a33 ∧ ∃ (A34 : Option Addr) (n35 : Nat) (c36 : Nat), w31.cell? (((a33.add ((z21.2.1.toNat) * 3)).add 2).add 0) = some (.slice A34 n35 c36) ∧ Cll Try.prog 102 #[(.slice A34 n35 c36), (.int .i64 n32)] w31 fun v37 w38 => (∃ (n39 : Int), v37 = (.int .i64 n39) ∧ next23 (n39, (IntKind.wrap .i64 (z21.2.1 + 1)), ()) w38)))))) (K (.int .i64 z21.1) w22)) (x1, 0, ()) w

def laws_markWarpS.ann : Ann := (.seq .l (.seq (.seq .l (.one (.loop [(1, .int .i64), (5, .int .i64)] (.seq (.seq .l (.two .l .l)) (.seq (.one (.seq .l (.seq .l (.seq .l .l)))) .l))))) (.seq .l .l)))

theorem laws_markWarpS.vc_eq (A0 : Option Addr) (n0 : Nat) (c0 : Nat) (x1 : Int) (w : World) (K : Value → World → Prop) : vcF Try.prog Try.f101 laws_markWarpS.ann [(.slice A0 n0 c0), (.int .i64 x1)] K w = laws_markWarpS.vc A0 n0 c0 x1 w K := by kernel_rfl

theorem laws_markWarpS.start {A0 : Option Addr} {n0 : Nat} {c0 : Nat} {x1 : Int} {w : World} {K : Value → World → Prop} (h : laws_markWarpS.vc A0 n0 c0 x1 w K) : Cll Try.prog 101 #[(.slice A0 n0 c0), (.int .i64 x1)] w K :=
  vcF_sound mixed (fn := Try.f101) (by kernel_rfl) (by kernel_rfl) (an := laws_markWarpS.ann) (args := [(.slice A0 n0 c0), (.int .i64 x1)]) (by rw [laws_markWarpS.vc_eq]; exact h)

theorem laws_markWarpS.con {xs0 : List D.Warp} {A0 : Option Addr} {c0 : Nat} {F0 : Nat → Prop} {x1 : Int} {r : Int × (List D.Warp)} {w : World} (hp : M.laws_markWarpS_pre xs0 x1) (hr : r = M.laws_markWarpS xs0 x1) (O1 : OwnW 96 el134 el3 w 0 F0 A0 c0 xs0) :
    Cll Try.prog 101 #[(.slice A0 xs0.length c0), (.int .i64 x1)] w (fun v_ w_ => v_ = (.int .i64 r.1) ∧ OwnW 96 el134 el3 w_ 0 F0 A0 c0 r.2 ∧ r.2.length = xs0.length ∧ Chg (InW A0 F0) w w_) := by
  have H := wp.laws_markWarpS.math xs0 x1 hp
  have hB := Chg.refl (InW A0 F0) w
  refine laws_markWarpS.start ?_
  unfold laws_markWarpS.vc
  unfold wp.laws_markWarpS at H
  obtain ⟨J78, ⟨m132, hJ131⟩, hS79⟩ := H
  refine ⟨fun m_ z_ w_ => ∃ (i72 : Int) (i73 : Int) (xs74 : List D.Warp), z_ = (i72, i73, ()) ∧ J78 m_ (i72, i73, xs74, ()) ∧ Chg (InW A0 F0) w w_ ∧ OwnW 96 el134 el3 w_ 0 F0 A0 c0 xs74 ∧ xs0.length = xs74.length, ⟨m132, x1, 0, xs0, rfl, hJ131, hB, O1, (by first | rfl | assumption | (simp; done) | (simp; omega) | (simp; assumption))⟩, ?_⟩
  rintro m77 _ w81 ⟨i72, i73, xs74, rfl, hJ133, hB, O1, hn76⟩
  have H := hS79 m77 _ hJ133
  clear hS79 hJ133
  dsimp only at H ⊢
  refine bcase_mk (fun hc129 => ?_) (fun hc129 => ?_)
  · have H := (bcase_iff.1 H).1 hc129
    obtain ⟨⟨h0_85, h1_86⟩, H⟩ := H
    obtain ⟨a83, ha84, _⟩ := RowW.at O1.row h0_85 h1_86
    refine ⟨h0_85, (by first | exact h1_86 | omega | (simp at h1_86 ⊢; omega)), a83, ha84, ?_⟩
    refine OwnW.storeNum O1 ha84 h0_85 h1_86 i72 (by decide) (by decide) (fun w87 P1 e88 hb89 => ?_)
    have hB := hB.chgb e88 (Or.inr (Or.inl ⟨_, ha84, rfl⟩))
    have O1 := P1
    obtain ⟨⟨h0_93, h1_94⟩, H⟩ := H
    obtain ⟨a91, ha92, _⟩ := RowW.at O1.row h0_93 h1_94
    refine ⟨h0_93, (by first | exact h1_94 | omega | (simp at h1_94 ⊢; omega)), a91, ha92, ?_⟩
    obtain ⟨A98, c99, A100, c101, f95, f96, f97⟩ := OwnW.cellsAt O1 ha92 h0_93 h1_94
    have C4 := f96
    refine ⟨_, _, _, f96, ?_⟩
    obtain ⟨U4, V4, W4⟩ := OwnW.sub1 O1 ha92 h0_93 h1_94 C4
    obtain ⟨hp104, H⟩ := H
    obtain ⟨r102, hr103⟩ : ∃ r_, r_ = M.laws_markFrameS ((rd (List.set xs74 (i73.toNat) (⟨i72, (rd xs74 i73).Frames, (rd xs74 i73).Regs⟩ : D.Warp)) i73).Frames) (IntKind.wrap .i64 (i72 + 1)) := ⟨_, rfl⟩
    have H := H r102 hr103
    refine (cllArgs (by first | (simp only [List.length_set]; done) | (simp; done)) (laws_markFrameS.con hp104 hr103 (U4.mono (Nat.zero_le _)))).mono ?_
    rintro _ w105 ⟨rfl, Q4, hl107, e106⟩
    have hB := hB.chg e106 (fun g h_ => Or.inr (Or.inr (V4 g h_)))
    have O1 := W4 _ _ e106 Q4 hl107
    refine ⟨r102.1, rfl, ?_⟩
    obtain ⟨⟨h0_111, h1_112⟩, H⟩ := H
    obtain ⟨a109, ha110, _⟩ := RowW.at O1.row h0_111 h1_112
    refine ⟨h0_111, (by first | exact h1_112 | omega | (simp at h1_112 ⊢; omega)), a109, ha110, ?_⟩
    obtain ⟨A116, c117, A118, c119, f113, f114, f115⟩ := OwnW.cellsAt O1 ha110 h0_111 h1_112
    have C5 := f115
    refine ⟨_, _, _, f115, ?_⟩
    obtain ⟨U5, V5, W5⟩ := OwnW.sub2 O1 ha110 h0_111 h1_112 C5
    obtain ⟨hp122, H⟩ := H
    obtain ⟨r120, hr121⟩ : ∃ r_, r_ = M.laws_markIntS ((rd (List.set (List.set xs74 (i73.toNat) (⟨i72, (rd xs74 i73).Frames, (rd xs74 i73).Regs⟩ : D.Warp)) (i73.toNat) (⟨(rd (List.set xs74 (i73.toNat) (⟨i72, (rd xs74 i73).Frames, (rd xs74 i73).Regs⟩ : D.Warp)) i73).Number, r102.2, (rd (List.set xs74 (i73.toNat) (⟨i72, (rd xs74 i73).Frames, (rd xs74 i73).Regs⟩ : D.Warp)) i73).Regs⟩ : D.Warp)) i73).Regs) r102.1 := ⟨_, rfl⟩
    have H := H r120 hr121
    refine (cllArgs (by first | (simp only [List.length_set]; done) | (simp; done)) (laws_markIntS.con hp122 hr121 (U5.mono (Nat.zero_le _)))).mono ?_
    rintro _ w123 ⟨rfl, Q5, hl125, e124⟩
    have hB := hB.chg e124 (fun g h_ => Or.inr (Or.inr (V5 g h_)))
    have O1 := W5 _ _ e124 Q5 hl125
    refine ⟨r120.1, rfl, ?_⟩
    obtain ⟨m126, hm127, hJ128⟩ := H
    exact ⟨m126, hm127, r120.1, (IntKind.wrap .i64 (i73 + 1)), (List.set (List.set (List.set xs74 (i73.toNat) (⟨i72, (rd xs74 i73).Frames, (rd xs74 i73).Regs⟩ : D.Warp)) (i73.toNat) (⟨(rd (List.set xs74 (i73.toNat) (⟨i72, (rd xs74 i73).Frames, (rd xs74 i73).Regs⟩ : D.Warp)) i73).Number, r102.2, (rd (List.set xs74 (i73.toNat) (⟨i72, (rd xs74 i73).Frames, (rd xs74 i73).Regs⟩ : D.Warp)) i73).Regs⟩ : D.Warp)) (i73.toNat) (⟨(rd (List.set (List.set xs74 (i73.toNat) (⟨i72, (rd xs74 i73).Frames, (rd xs74 i73).Regs⟩ : D.Warp)) (i73.toNat) (⟨(rd (List.set xs74 (i73.toNat) (⟨i72, (rd xs74 i73).Frames, (rd xs74 i73).Regs⟩ : D.Warp)) i73).Number, r102.2, (rd (List.set xs74 (i73.toNat) (⟨i72, (rd xs74 i73).Frames, (rd xs74 i73).Regs⟩ : D.Warp)) i73).Regs⟩ : D.Warp)) i73).Number, (rd (List.set (List.set xs74 (i73.toNat) (⟨i72, (rd xs74 i73).Frames, (rd xs74 i73).Regs⟩ : D.Warp)) (i73.toNat) (⟨(rd (List.set xs74 (i73.toNat) (⟨i72, (rd xs74 i73).Frames, (rd xs74 i73).Regs⟩ : D.Warp)) i73).Number, r102.2, (rd (List.set xs74 (i73.toNat) (⟨i72, (rd xs74 i73).Frames, (rd xs74 i73).Regs⟩ : D.Warp)) i73).Regs⟩ : D.Warp)) i73).Frames, r120.2⟩ : D.Warp)), rfl, hJ128, hB, O1, (by first | rfl | assumption | (simp; done) | (simp; omega) | (simp; assumption))⟩
  · have H := (bcase_iff.1 H).2 hc129
    obtain rfl := hr.trans H.symm
    exact ⟨rfl, O1, (by first | (simp only [List.length_set]; done) | (simp only [List.length_set, ← hn76]; done) | (simp; done) | (simp; omega) | omega), hB⟩

def laws_markBlock.vc (A0_0 : Option Addr) (n0_0 : Nat) (c0_0 : Nat) (A0_1 : Option Addr) (n0_1 : Nat) (c0_1 : Nat) (A0_2 : Option Addr) (n0_2 : Nat) (c0_2 : Nat) (x0_3 : Int) (x0_4 : Int) (x1 : Int) (w : World) (K : Value → World → Prop) : Prop :=
  newK w (.cells #[(.slice A0_0 n0_0 c0_0), (.slice A0_1 n0_1 c0_1), (.slice A0_2 n0_2 c0_2), (.int .i64 x0_3), (.int .i64 x0_4)] 48) fun g21 w22 => ∃ (A23 : Option Addr) (n24 : Nat) (c25 : Nat), w22.cell? (((⟨g21, 0, none⟩ : Addr).add 0).add 0) = some (.slice A23 n24 c25) ∧ Cll Try.prog 45 #[(.slice A23 n24 c25), (.int .i64 x1)] w22 fun v26 w27 => (∃ (n28 : Int), v26 = (.int .i64 n28) ∧ ∃ (A29 : Option Addr) (n30 : Nat) (c31 : Nat), w27.cell? (((⟨g21, 0, none⟩ : Addr).add 1).add 0) = some (.slice A29 n30 c31) ∧ Cll Try.prog 101 #[(.slice A29 n30 c31), (.int .i64 n28)] w27 fun v32 w33 => (∃ (n34 : Int), v32 = (.int .i64 n34) ∧ ∃ (A35 : Option Addr) (n36 : Nat) (c37 : Nat), w33.cell? (((⟨g21, 0, none⟩ : Addr).add 2).add 0) = some (.slice A35 n36 c37) ∧ Cll Try.prog 102 #[(.slice A35 n36 c37), (.int .i64 n34)] w33 fun v38 w39 => (∃ (n40 : Int), v38 = (.int .i64 n40) ∧ K (.int .i64 n40) w39)))

def laws_markBlock.ann : Ann := (.seq .l (.seq .l (.seq .l (.seq .l (.seq .l .l)))))

theorem laws_markBlock.vc_eq (A0_0 : Option Addr) (n0_0 : Nat) (c0_0 : Nat) (A0_1 : Option Addr) (n0_1 : Nat) (c0_1 : Nat) (A0_2 : Option Addr) (n0_2 : Nat) (c0_2 : Nat) (x0_3 : Int) (x0_4 : Int) (x1 : Int) (w : World) (K : Value → World → Prop) : vcF Try.prog Try.f46 laws_markBlock.ann [(.agg #[(.slice A0_0 n0_0 c0_0), (.slice A0_1 n0_1 c0_1), (.slice A0_2 n0_2 c0_2), (.int .i64 x0_3), (.int .i64 x0_4)]), (.int .i64 x1)] K w = laws_markBlock.vc A0_0 n0_0 c0_0 A0_1 n0_1 c0_1 A0_2 n0_2 c0_2 x0_3 x0_4 x1 w K := by kernel_rfl

theorem laws_markBlock.start {A0_0 : Option Addr} {n0_0 : Nat} {c0_0 : Nat} {A0_1 : Option Addr} {n0_1 : Nat} {c0_1 : Nat} {A0_2 : Option Addr} {n0_2 : Nat} {c0_2 : Nat} {x0_3 : Int} {x0_4 : Int} {x1 : Int} {w : World} {K : Value → World → Prop} (h : laws_markBlock.vc A0_0 n0_0 c0_0 A0_1 n0_1 c0_1 A0_2 n0_2 c0_2 x0_3 x0_4 x1 w K) : Cll Try.prog 46 #[(.agg #[(.slice A0_0 n0_0 c0_0), (.slice A0_1 n0_1 c0_1), (.slice A0_2 n0_2 c0_2), (.int .i64 x0_3), (.int .i64 x0_4)]), (.int .i64 x1)] w K :=
  vcF_sound mixed (fn := Try.f46) (by kernel_rfl) (by kernel_rfl) (an := laws_markBlock.ann) (args := [(.agg #[(.slice A0_0 n0_0 c0_0), (.slice A0_1 n0_1 c0_1), (.slice A0_2 n0_2 c0_2), (.int .i64 x0_3), (.int .i64 x0_4)]), (.int .i64 x1)]) (by rw [laws_markBlock.vc_eq]; exact h)

theorem laws_markBlock.con {s0 : D.Block} {A0_0 : Option Addr} {c0_0 : Nat} {A0_1 : Option Addr} {c0_1 : Nat} {F0_1 : Nat → Prop} {A0_2 : Option Addr} {c0_2 : Nat} {x1 : Int} {r : Int × (List D.Ins) × (List D.Warp) × (List Int)} {w : World} (hp : M.laws_markBlock_pre s0 x1) (hr : r = M.laws_markBlock s0 x1) (O1 : Own el99 w 0 A0_0 c0_0 s0.Code) (O2 : OwnW 96 el134 el3 w 0 F0_1 A0_1 c0_1 s0.Warps) (O3 : Own el3 w 0 A0_2 c0_2 s0.Memory) (N2_3 : Dis (InW A0_1 F0_1) (InB A0_2)) :
    Cll Try.prog 46 #[(.agg #[(.slice A0_0 s0.Code.length c0_0), (.slice A0_1 s0.Warps.length c0_1), (.slice A0_2 s0.Memory.length c0_2), (.int .i64 s0.Waiting), (.int .i64 s0.Phase)]), (.int .i64 x1)] w (fun v_ w_ => v_ = (.int .i64 r.1) ∧ Own el99 w_ 0 A0_0 c0_0 r.2.1 ∧ r.2.1.length = s0.Code.length ∧ OwnW 96 el134 el3 w_ 0 F0_1 A0_1 c0_1 r.2.2.1 ∧ r.2.2.1.length = s0.Warps.length ∧ Own el3 w_ 0 A0_2 c0_2 r.2.2.2 ∧ r.2.2.2.length = s0.Memory.length ∧ Chg (fun k_ => InB A0_0 k_ ∨ InW A0_1 F0_1 k_ ∨ InB A0_2 k_) w w_) := by
  have H := wp.laws_markBlock.math s0 x1 hp
  have hB := Chg.refl (fun k_ => InB A0_0 k_ ∨ InW A0_1 F0_1 k_ ∨ InB A0_2 k_) w
  refine laws_markBlock.start ?_
  unfold laws_markBlock.vc
  unfold wp.laws_markBlock at H
  refine newBlk (fun g4_ w21 L4 P4 e22 => ?_)
  have N1_4 := O1.apart_new L4
  have N2_4 := O2.dis_newbox L4
  have N3_4 := O3.apart_new L4
  have O1 := O1.ext e22
  have O2 := O2.ext e22
  have O3 := O3.ext e22
  have O4 := P4
  have L4 := Nat.le_trans hB.size L4
  have hB := hB.then e22
  refine ⟨_, _, _, (O4.at 0 rfl rfl), ?_⟩
  obtain ⟨hp25, H⟩ := H
  obtain ⟨r23, hr24⟩ : ∃ r_, r_ = M.laws_markInsS s0.Code x1 := ⟨_, rfl⟩
  have H := H r23 hr24
  refine (laws_markInsS.con hp25 hr24 (O1.mono (Nat.zero_le _))).mono ?_
  rintro _ w26 ⟨rfl, Q1, hl28, e27⟩
  have O2 := O2.kept e27 (OwnW.dis_type O2 O1 (by decide) (by decide) (by decide))
  have O3 := O3.chgS e27 ((Own.apart2_type O3 O1 (by decide))).inb
  have O4 := O4.chgS e27 (N1_4).inb
  have hB := hB.chg e27 (fun g h_ => Or.inr (Or.inl h_))
  have O1 := Q1
  refine ⟨r23.1, rfl, ?_⟩
  refine ⟨_, _, _, (O4.at 1 rfl rfl), ?_⟩
  obtain ⟨hp31, H⟩ := H
  obtain ⟨r29, hr30⟩ : ∃ r_, r_ = M.laws_markWarpS s0.Warps r23.1 := ⟨_, rfl⟩
  have H := H r29 hr30
  refine (laws_markWarpS.con hp31 hr30 (O2.mono (Nat.zero_le _))).mono ?_
  rintro _ w32 ⟨rfl, Q2, hl34, e33⟩
  have O1 := O1.chgS e33 ((OwnW.dis_type O2 O1 (by decide) (by decide) (by decide))).symm
  have O3 := O3.chgS e33 (N2_3).symm
  have O4 := O4.chgS e33 N2_4
  have hB := hB.chg e33 (fun g h_ => Or.inr (Or.inr (Or.inl h_)))
  have O2 := Q2
  refine ⟨r29.1, rfl, ?_⟩
  refine ⟨_, _, _, (O4.at 2 rfl rfl), ?_⟩
  obtain ⟨hp37, H⟩ := H
  obtain ⟨r35, hr36⟩ : ∃ r_, r_ = M.laws_markIntS s0.Memory r29.1 := ⟨_, rfl⟩
  have H := H r35 hr36
  refine (laws_markIntS.con hp37 hr36 (O3.mono (Nat.zero_le _))).mono ?_
  rintro _ w38 ⟨rfl, Q3, hl40, e39⟩
  have O1 := O1.chgS e39 ((Own.apart2_type O1 O3 (by decide))).inb
  have O2 := O2.kept e39 N2_3
  have O4 := O4.chgS e39 (N3_4).inb
  have hB := hB.chg e39 (fun g h_ => Or.inr (Or.inr (Or.inr h_)))
  have O3 := Q3
  refine ⟨r35.1, rfl, ?_⟩
  obtain rfl := hr.trans H.symm
  exact ⟨rfl, O1, (by first | (simp only [List.length_set]; done) | (simp only [List.length_set, hl28]; done) | (simp; done) | (simp; omega) | omega), O2, (by first | (simp only [List.length_set]; done) | (simp only [List.length_set, hl34]; done) | (simp; done) | (simp; omega) | omega), O3, (by first | (simp only [List.length_set]; done) | (simp only [List.length_set, hl40]; done) | (simp; done) | (simp; omega) | omega), hB⟩

def laws_heldInsS.vc (A0 : Option Addr) (n0 : Nat) (c0 : Nat) (x1 : Int) (w : World) (K : Value → World → Prop) : Prop :=
  LoopT (σ := Int × Int × Unit) (fun z21 w22 next23 => bcase (decide (z21.2.1 < ((n0 : Nat) : Int))) (((0 : Int) ≤ z21.2.1 ∧ z21.2.1 < ((n0 : Nat) : Int) ∧ ∃ a24 : Addr, A0 = some a24 ∧ ∃ (n25 : Int), w22.cell? (((a24.add ((z21.2.1.toNat) * 4)).add 0).add 0) = some (.int .i64 n25) ∧ bcase (n25 != z21.1) (K (.int .i64 (-1)) w22) (((0 : Int) ≤ z21.2.1 ∧ z21.2.1 < ((n0 : Nat) : Int) ∧ ∃ a26 : Addr, A0 = some a26 ∧ ∃ (n27 : Int), w22.cell? (((a26.add ((z21.2.1.toNat) * 4)).add 1).add 0) = some (.int .i64 n27) ∧ bcase (n27 != (IntKind.wrap .i64 (z21.1 + 1))) (K (.int .i64 (-1)) w22) (((0 : Int) ≤ z21.2.1 ∧ z21.2.1 < ((n0 : Nat) : Int) ∧ ∃ a28 : Addr, A0 = some a28 ∧ ∃ (n29 : Int), w22.cell? (((a28.add ((z21.2.1.toNat) * 4)).add 2).add 0) = some (.int .i64 n29) ∧ bcase (n29 != (IntKind.wrap .i64 ((IntKind.wrap .i64 (z21.1 + 1)) + 1))) (K (.int .i64 (-1)) w22) (((0 : Int) ≤ z21.2.1 ∧ z21.2.1 < ((n0 : Nat) : Int) ∧ ∃ a30 : Addr, A0 = some a30 ∧ ∃ (n31 : Int), w22.cell? (((a30.add ((z21.2.1.toNat) * 4)).add 3).add 0) = some (.int .i64 n31) ∧ bcase (n31 != (IntKind.wrap .i64 ((IntKind.wrap .i64 ((IntKind.wrap .i64 (z21.1 + 1)) + 1)) + 1))) (K (.int .i64 (-1)) w22) (next23 ((IntKind.wrap .i64 ((IntKind.wrap .i64 ((IntKind.wrap .i64 ((IntKind.wrap .i64 (z21.1 + 1)) + 1)) + 1)) + 1)), (IntKind.wrap .i64 (z21.2.1 + 1)), ()) w22))))))))) (K (.int .i64 z21.1) w22)) (x1, 0, ()) w

def laws_heldInsS.ann : Ann := (.seq .l (.seq (.seq .l (.one (.loop [(1, .int .i64), (5, .int .i64)] (.seq (.seq .l (.two .l .l)) (.seq (.one (.seq (.seq .l (.two (.seq .l .l) .l)) (.seq .l (.seq (.seq .l (.two (.seq .l .l) .l)) (.seq .l (.seq (.seq .l (.two (.seq .l .l) .l)) (.seq .l (.seq (.seq .l (.two (.seq .l .l) .l)) .l)))))))) .l))))) (.seq .l .l)))

theorem laws_heldInsS.vc_eq (A0 : Option Addr) (n0 : Nat) (c0 : Nat) (x1 : Int) (w : World) (K : Value → World → Prop) : vcF Try.prog Try.f103 laws_heldInsS.ann [(.slice A0 n0 c0), (.int .i64 x1)] K w = laws_heldInsS.vc A0 n0 c0 x1 w K := by kernel_rfl

theorem laws_heldInsS.start {A0 : Option Addr} {n0 : Nat} {c0 : Nat} {x1 : Int} {w : World} {K : Value → World → Prop} (h : laws_heldInsS.vc A0 n0 c0 x1 w K) : Cll Try.prog 103 #[(.slice A0 n0 c0), (.int .i64 x1)] w K :=
  vcF_sound mixed (fn := Try.f103) (by kernel_rfl) (by kernel_rfl) (an := laws_heldInsS.ann) (args := [(.slice A0 n0 c0), (.int .i64 x1)]) (by rw [laws_heldInsS.vc_eq]; exact h)

theorem laws_heldInsS.con {xs0 : List D.Ins} {A0 : Option Addr} {c0 : Nat} {x1 : Int} {r : Int} {w : World} (hp : M.laws_heldInsS_pre xs0 x1) (hr : r = M.laws_heldInsS xs0 x1) (R0 : Row el99 w A0 xs0) (hc0 : xs0.length ≤ c0) :
    Cll Try.prog 103 #[(.slice A0 xs0.length c0), (.int .i64 x1)] w (fun v_ w_ => v_ = (.int .i64 r) ∧ Ext w w_) := by
  have H := wp.laws_heldInsS.math xs0 x1 hp
  have hB := Ext.refl w
  refine laws_heldInsS.start ?_
  unfold laws_heldInsS.vc
  unfold wp.laws_heldInsS at H
  obtain ⟨J24, ⟨m58, hJ57⟩, hS25⟩ := H
  refine ⟨fun m_ z_ w_ => ∃ (i21 : Int) (i22 : Int), z_ = (i21, i22, ()) ∧ J24 m_ (i21, i22, ()) ∧ Ext w w_, ⟨m58, x1, 0, rfl, hJ57, hB⟩, ?_⟩
  rintro m23 _ w27 ⟨i21, i22, rfl, hJ59, hB⟩
  have H := hS25 m23 _ hJ59
  clear hS25 hJ59
  dsimp only at H ⊢
  refine bcase_mk (fun hc55 => ?_) (fun hc55 => ?_)
  · have H := (bcase_iff.1 H).1 hc55
    obtain ⟨⟨h0_31, h1_32⟩, H⟩ := H
    obtain ⟨a29, ha30, hat28⟩ := Row.at (R0.ext hB) h0_31 h1_32
    refine ⟨h0_31, h1_32, a29, ha30, ?_⟩
    refine ⟨_, (hat28 0 _ rfl), ?_⟩
    refine bcase_mk (fun hc54 => ?_) (fun hc54 => ?_)
    · have H := (bcase_iff.1 H).1 hc54
      obtain rfl := hr.trans H.symm
      exact ⟨rfl, hB⟩
    · have H := (bcase_iff.1 H).2 hc54
      obtain ⟨⟨h0_36, h1_37⟩, H⟩ := H
      obtain ⟨a34, ha35, hat33⟩ := Row.at (R0.ext hB) h0_36 h1_37
      refine ⟨h0_36, h1_37, a34, ha35, ?_⟩
      refine ⟨_, (hat33 1 _ rfl), ?_⟩
      refine bcase_mk (fun hc53 => ?_) (fun hc53 => ?_)
      · have H := (bcase_iff.1 H).1 hc53
        obtain rfl := hr.trans H.symm
        exact ⟨rfl, hB⟩
      · have H := (bcase_iff.1 H).2 hc53
        obtain ⟨⟨h0_41, h1_42⟩, H⟩ := H
        obtain ⟨a39, ha40, hat38⟩ := Row.at (R0.ext hB) h0_41 h1_42
        refine ⟨h0_41, h1_42, a39, ha40, ?_⟩
        refine ⟨_, (hat38 2 _ rfl), ?_⟩
        refine bcase_mk (fun hc52 => ?_) (fun hc52 => ?_)
        · have H := (bcase_iff.1 H).1 hc52
          obtain rfl := hr.trans H.symm
          exact ⟨rfl, hB⟩
        · have H := (bcase_iff.1 H).2 hc52
          obtain ⟨⟨h0_46, h1_47⟩, H⟩ := H
          obtain ⟨a44, ha45, hat43⟩ := Row.at (R0.ext hB) h0_46 h1_47
          refine ⟨h0_46, h1_47, a44, ha45, ?_⟩
          refine ⟨_, (hat43 3 _ rfl), ?_⟩
          refine bcase_mk (fun hc51 => ?_) (fun hc51 => ?_)
          · have H := (bcase_iff.1 H).1 hc51
            obtain rfl := hr.trans H.symm
            exact ⟨rfl, hB⟩
          · have H := (bcase_iff.1 H).2 hc51
            obtain ⟨m48, hm49, hJ50⟩ := H
            exact ⟨m48, hm49, (IntKind.wrap .i64 ((IntKind.wrap .i64 ((IntKind.wrap .i64 ((IntKind.wrap .i64 (i21 + 1)) + 1)) + 1)) + 1)), (IntKind.wrap .i64 (i22 + 1)), rfl, hJ50, hB⟩
  · have H := (bcase_iff.1 H).2 hc55
    obtain rfl := hr.trans H.symm
    exact ⟨rfl, hB⟩

def laws_heldFrameS.vc (A0 : Option Addr) (n0 : Nat) (c0 : Nat) (x1 : Int) (w : World) (K : Value → World → Prop) : Prop :=
  LoopT (σ := Int × Int × Unit) (fun z21 w22 next23 => bcase (decide (z21.2.1 < ((n0 : Nat) : Int))) (((0 : Int) ≤ z21.2.1 ∧ z21.2.1 < ((n0 : Nat) : Int) ∧ ∃ a24 : Addr, A0 = some a24 ∧ ∃ (n25 : Int), w22.cell? (((a24.add ((z21.2.1.toNat) * 3)).add 0).add 0) = some (.int .i64 n25) ∧ bcase (n25 != z21.1) (K (.int .i64 (-1)) w22) (((0 : Int) ≤ z21.2.1 ∧ z21.2.1 < ((n0 : Nat) : Int) ∧ ∃ a26 : Addr, A0 = some a26 ∧ ∃ (n27 : Int), w22.cell? (((a26.add ((z21.2.1.toNat) * 3)).add 1).add 0) = some (.int .i64 n27) ∧ bcase (n27 != (IntKind.wrap .i64 (z21.1 + 1))) (K (.int .i64 (-1)) w22) (((0 : Int) ≤ z21.2.1 ∧ z21.2.1 < ((n0 : Nat) : Int) ∧ ∃ a28 : Addr, A0 = some a28 ∧ ∃ (n29 : Int), w22.cell? (((a28.add ((z21.2.1.toNat) * 3)).add 2).add 0) = some (.int .i64 n29) ∧ bcase (n29 != (IntKind.wrap .i64 ((IntKind.wrap .i64 (z21.1 + 1)) + 1))) (K (.int .i64 (-1)) w22) (next23 ((IntKind.wrap .i64 ((IntKind.wrap .i64 ((IntKind.wrap .i64 (z21.1 + 1)) + 1)) + 1)), (IntKind.wrap .i64 (z21.2.1 + 1)), ()) w22))))))) (K (.int .i64 z21.1) w22)) (x1, 0, ()) w

def laws_heldFrameS.ann : Ann := (.seq .l (.seq (.seq .l (.one (.loop [(1, .int .i64), (5, .int .i64)] (.seq (.seq .l (.two .l .l)) (.seq (.one (.seq (.seq .l (.two (.seq .l .l) .l)) (.seq .l (.seq (.seq .l (.two (.seq .l .l) .l)) (.seq .l (.seq (.seq .l (.two (.seq .l .l) .l)) .l)))))) .l))))) (.seq .l .l)))

theorem laws_heldFrameS.vc_eq (A0 : Option Addr) (n0 : Nat) (c0 : Nat) (x1 : Int) (w : World) (K : Value → World → Prop) : vcF Try.prog Try.f138 laws_heldFrameS.ann [(.slice A0 n0 c0), (.int .i64 x1)] K w = laws_heldFrameS.vc A0 n0 c0 x1 w K := by kernel_rfl

theorem laws_heldFrameS.start {A0 : Option Addr} {n0 : Nat} {c0 : Nat} {x1 : Int} {w : World} {K : Value → World → Prop} (h : laws_heldFrameS.vc A0 n0 c0 x1 w K) : Cll Try.prog 138 #[(.slice A0 n0 c0), (.int .i64 x1)] w K :=
  vcF_sound mixed (fn := Try.f138) (by kernel_rfl) (by kernel_rfl) (an := laws_heldFrameS.ann) (args := [(.slice A0 n0 c0), (.int .i64 x1)]) (by rw [laws_heldFrameS.vc_eq]; exact h)

theorem laws_heldFrameS.con {xs0 : List D.Frame} {A0 : Option Addr} {c0 : Nat} {x1 : Int} {r : Int} {w : World} (hp : M.laws_heldFrameS_pre xs0 x1) (hr : r = M.laws_heldFrameS xs0 x1) (R0 : Row el134 w A0 xs0) (hc0 : xs0.length ≤ c0) :
    Cll Try.prog 138 #[(.slice A0 xs0.length c0), (.int .i64 x1)] w (fun v_ w_ => v_ = (.int .i64 r) ∧ Ext w w_) := by
  have H := wp.laws_heldFrameS.math xs0 x1 hp
  have hB := Ext.refl w
  refine laws_heldFrameS.start ?_
  unfold laws_heldFrameS.vc
  unfold wp.laws_heldFrameS at H
  obtain ⟨J24, ⟨m52, hJ51⟩, hS25⟩ := H
  refine ⟨fun m_ z_ w_ => ∃ (i21 : Int) (i22 : Int), z_ = (i21, i22, ()) ∧ J24 m_ (i21, i22, ()) ∧ Ext w w_, ⟨m52, x1, 0, rfl, hJ51, hB⟩, ?_⟩
  rintro m23 _ w27 ⟨i21, i22, rfl, hJ53, hB⟩
  have H := hS25 m23 _ hJ53
  clear hS25 hJ53
  dsimp only at H ⊢
  refine bcase_mk (fun hc49 => ?_) (fun hc49 => ?_)
  · have H := (bcase_iff.1 H).1 hc49
    obtain ⟨⟨h0_31, h1_32⟩, H⟩ := H
    obtain ⟨a29, ha30, hat28⟩ := Row.at (R0.ext hB) h0_31 h1_32
    refine ⟨h0_31, h1_32, a29, ha30, ?_⟩
    refine ⟨_, (hat28 0 _ rfl), ?_⟩
    refine bcase_mk (fun hc48 => ?_) (fun hc48 => ?_)
    · have H := (bcase_iff.1 H).1 hc48
      obtain rfl := hr.trans H.symm
      exact ⟨rfl, hB⟩
    · have H := (bcase_iff.1 H).2 hc48
      obtain ⟨⟨h0_36, h1_37⟩, H⟩ := H
      obtain ⟨a34, ha35, hat33⟩ := Row.at (R0.ext hB) h0_36 h1_37
      refine ⟨h0_36, h1_37, a34, ha35, ?_⟩
      refine ⟨_, (hat33 1 _ rfl), ?_⟩
      refine bcase_mk (fun hc47 => ?_) (fun hc47 => ?_)
      · have H := (bcase_iff.1 H).1 hc47
        obtain rfl := hr.trans H.symm
        exact ⟨rfl, hB⟩
      · have H := (bcase_iff.1 H).2 hc47
        obtain ⟨⟨h0_41, h1_42⟩, H⟩ := H
        obtain ⟨a39, ha40, hat38⟩ := Row.at (R0.ext hB) h0_41 h1_42
        refine ⟨h0_41, h1_42, a39, ha40, ?_⟩
        refine ⟨_, (hat38 2 _ rfl), ?_⟩
        refine bcase_mk (fun hc46 => ?_) (fun hc46 => ?_)
        · have H := (bcase_iff.1 H).1 hc46
          obtain rfl := hr.trans H.symm
          exact ⟨rfl, hB⟩
        · have H := (bcase_iff.1 H).2 hc46
          obtain ⟨m43, hm44, hJ45⟩ := H
          exact ⟨m43, hm44, (IntKind.wrap .i64 ((IntKind.wrap .i64 ((IntKind.wrap .i64 (i21 + 1)) + 1)) + 1)), (IntKind.wrap .i64 (i22 + 1)), rfl, hJ45, hB⟩
  · have H := (bcase_iff.1 H).2 hc49
    obtain rfl := hr.trans H.symm
    exact ⟨rfl, hB⟩

def laws_heldWarpS.vc (A0 : Option Addr) (n0 : Nat) (c0 : Nat) (x1 : Int) (w : World) (K : Value → World → Prop) : Prop :=
  LoopT (σ := Int × Int × Unit) (fun z21 w22 next23 => bcase (decide (z21.2.1 < ((n0 : Nat) : Int))) (((0 : Int) ≤ z21.2.1 ∧ z21.2.1 < ((n0 : Nat) : Int) ∧ ∃ a24 : Addr, A0 = some a24 ∧ ∃ (n25 : Int), w22.cell? (((a24.add ((z21.2.1.toNat) * 3)).add 0).add 0) = some (.int .i64 n25) ∧ bcase (n25 != z21.1) (K (.int .i64 (-1)) w22) (((0 : Int) ≤ z21.2.1 ∧ z21.2.1 < ((n0 : Nat) : Int) ∧ ∃ a26 : Addr, A0 = some a26 ∧ ∃ (A27 : Option Addr) (n28 : Nat) (c29 : Nat), w22.cell? (((a26.add ((z21.2.1.toNat) * 3)).add 1).add 0) = some (.slice A27 n28 c29) ∧ Cll Try.prog 138 #[(.slice A27 n28 c29), (.int .i64 (IntKind.wrap .i64 (z21.1 + 1)))] w22 fun v30 w31 => (∃ (n32 : Int), v30 = (.int .i64 n32) ∧ bcase (decide (n32 < 0)) (K (.int .i64 (-1)) w31) (((0 : Int) ≤ z21.2.1 ∧ z21.2.1 < ((n0 : Nat) : Int) ∧ ∃ a33 : Addr, A0 = some a33 ∧ ∃ (A34 : Option Addr) (n35 : Nat) (c36 : Nat), w31.cell? (((a33.add ((z21.2.1.toNat) * 3)).add 2).add 0) = some (.slice A34 n35 c36) ∧ Cll Try.prog 105 #[(.slice A34 n35 c36), (.int .i64 n32)] w31 fun v37 w38 => (∃ (n39 : Int), v37 = (.int .i64 n39) ∧ bcase (decide (n39 < 0)) (K (.int .i64 (-1)) w38) (next23 (n39, (IntKind.wrap .i64 (z21.2.1 + 1)), ()) w38))))))))) (K (.int .i64 z21.1) w22)) (x1, 0, ()) w

def laws_heldWarpS.ann : Ann := (.seq .l (.seq (.seq .l (.one (.loop [(1, .int .i64), (5, .int .i64)] (.seq (.seq .l (.two .l .l)) (.seq (.one (.seq (.seq .l (.two (.seq .l .l) .l)) (.seq .l (.seq .l (.seq (.seq .l (.two (.seq .l .l) .l)) (.seq .l (.seq .l (.two (.seq .l .l) .l)))))))) .l))))) (.seq .l .l)))

theorem laws_heldWarpS.vc_eq (A0 : Option Addr) (n0 : Nat) (c0 : Nat) (x1 : Int) (w : World) (K : Value → World → Prop) : vcF Try.prog Try.f104 laws_heldWarpS.ann [(.slice A0 n0 c0), (.int .i64 x1)] K w = laws_heldWarpS.vc A0 n0 c0 x1 w K := by kernel_rfl

theorem laws_heldWarpS.start {A0 : Option Addr} {n0 : Nat} {c0 : Nat} {x1 : Int} {w : World} {K : Value → World → Prop} (h : laws_heldWarpS.vc A0 n0 c0 x1 w K) : Cll Try.prog 104 #[(.slice A0 n0 c0), (.int .i64 x1)] w K :=
  vcF_sound mixed (fn := Try.f104) (by kernel_rfl) (by kernel_rfl) (an := laws_heldWarpS.ann) (args := [(.slice A0 n0 c0), (.int .i64 x1)]) (by rw [laws_heldWarpS.vc_eq]; exact h)

theorem laws_heldWarpS.con {xs0 : List D.Warp} {A0 : Option Addr} {c0 : Nat} {x1 : Int} {r : Int} {w : World} (hp : M.laws_heldWarpS_pre xs0 x1) (hr : r = M.laws_heldWarpS xs0 x1) (R0 : RowW 96 el134 el3 w A0 xs0) (hc0 : xs0.length ≤ c0) :
    Cll Try.prog 104 #[(.slice A0 xs0.length c0), (.int .i64 x1)] w (fun v_ w_ => v_ = (.int .i64 r) ∧ Ext w w_) := by
  have H := wp.laws_heldWarpS.math xs0 x1 hp
  have hB := Ext.refl w
  refine laws_heldWarpS.start ?_
  unfold laws_heldWarpS.vc
  unfold wp.laws_heldWarpS at H
  obtain ⟨J24, ⟨m95, hJ94⟩, hS25⟩ := H
  refine ⟨fun m_ z_ w_ => ∃ (i21 : Int) (i22 : Int), z_ = (i21, i22, ()) ∧ J24 m_ (i21, i22, ()) ∧ Ext w w_, ⟨m95, x1, 0, rfl, hJ94, hB⟩, ?_⟩
  rintro m23 _ w27 ⟨i21, i22, rfl, hJ96, hB⟩
  have H := hS25 m23 _ hJ96
  clear hS25 hJ96
  dsimp only at H ⊢
  refine bcase_mk (fun hc92 => ?_) (fun hc92 => ?_)
  · have H := (bcase_iff.1 H).1 hc92
    obtain ⟨⟨h0_31, h1_32⟩, H⟩ := H
    obtain ⟨a29, ha30, A36, c37, A38, c39, f33, f34, f35, R40, hle42, R41, hle43⟩ := RowW.at R0 h0_31 h1_32
    refine ⟨h0_31, h1_32, a29, ha30, ?_⟩
    refine ⟨_, (Ext.cell hB f33), ?_⟩
    refine bcase_mk (fun hc91 => ?_) (fun hc91 => ?_)
    · have H := (bcase_iff.1 H).1 hc91
      obtain rfl := hr.trans H.symm
      exact ⟨rfl, hB⟩
    · have H := (bcase_iff.1 H).2 hc91
      obtain ⟨⟨h0_47, h1_48⟩, H⟩ := H
      obtain ⟨a45, ha46, A52, c53, A54, c55, f49, f50, f51, R56, hle58, R57, hle59⟩ := RowW.at R0 h0_47 h1_48
      refine ⟨h0_47, h1_48, a45, ha46, ?_⟩
      refine ⟨_, _, _, (Ext.cell hB f50), ?_⟩
      obtain ⟨hp62, H⟩ := H
      obtain ⟨r60, hr61⟩ : ∃ r_, r_ = M.laws_heldFrameS ((rd xs0 i22).Frames) (IntKind.wrap .i64 (i21 + 1)) := ⟨_, rfl⟩
      have H := H r60 hr61
      refine (cllArgs (by first | (simp only [List.length_set]; done) | (simp; done)) (laws_heldFrameS.con hp62 hr61 (R56.ext hB) hle58)).mono ?_
      rintro _ w63 ⟨rfl, e64⟩
      have hB := ethen hB e64
      refine ⟨r60, rfl, ?_⟩
      refine bcase_mk (fun hc90 => ?_) (fun hc90 => ?_)
      · have H := (bcase_iff.1 H).1 hc90
        obtain rfl := hr.trans H.symm
        exact ⟨rfl, hB⟩
      · have H := (bcase_iff.1 H).2 hc90
        obtain ⟨⟨h0_68, h1_69⟩, H⟩ := H
        obtain ⟨a66, ha67, A73, c74, A75, c76, f70, f71, f72, R77, hle79, R78, hle80⟩ := RowW.at R0 h0_68 h1_69
        refine ⟨h0_68, h1_69, a66, ha67, ?_⟩
        refine ⟨_, _, _, (Ext.cell hB f72), ?_⟩
        obtain ⟨hp83, H⟩ := H
        obtain ⟨r81, hr82⟩ : ∃ r_, r_ = M.laws_heldIntS ((rd xs0 i22).Regs) r60 := ⟨_, rfl⟩
        have H := H r81 hr82
        refine (cllArgs (by first | (simp only [List.length_set]; done) | (simp; done)) (laws_heldIntS.con hp83 hr82 (R78.ext hB) hle80)).mono ?_
        rintro _ w84 ⟨rfl, e85⟩
        have hB := ethen hB e85
        refine ⟨r81, rfl, ?_⟩
        refine bcase_mk (fun hc89 => ?_) (fun hc89 => ?_)
        · have H := (bcase_iff.1 H).1 hc89
          obtain rfl := hr.trans H.symm
          exact ⟨rfl, hB⟩
        · have H := (bcase_iff.1 H).2 hc89
          obtain ⟨m86, hm87, hJ88⟩ := H
          exact ⟨m86, hm87, r81, (IntKind.wrap .i64 (i22 + 1)), rfl, hJ88, hB⟩
  · have H := (bcase_iff.1 H).2 hc92
    obtain rfl := hr.trans H.symm
    exact ⟨rfl, hB⟩

def laws_heldBlock.vc (A0_0 : Option Addr) (n0_0 : Nat) (c0_0 : Nat) (A0_1 : Option Addr) (n0_1 : Nat) (c0_1 : Nat) (A0_2 : Option Addr) (n0_2 : Nat) (c0_2 : Nat) (x0_3 : Int) (x0_4 : Int) (x1 : Int) (w : World) (K : Value → World → Prop) : Prop :=
  newK w (.cells #[(.slice A0_0 n0_0 c0_0), (.slice A0_1 n0_1 c0_1), (.slice A0_2 n0_2 c0_2), (.int .i64 x0_3), (.int .i64 x0_4)] 48) fun g21 w22 => ∃ (A23 : Option Addr) (n24 : Nat) (c25 : Nat), w22.cell? (((⟨g21, 0, none⟩ : Addr).add 0).add 0) = some (.slice A23 n24 c25) ∧ Cll Try.prog 103 #[(.slice A23 n24 c25), (.int .i64 x1)] w22 fun v26 w27 => (∃ (n28 : Int), v26 = (.int .i64 n28) ∧ bcase (decide (n28 < 0)) (K (.int .i64 (-1)) w27) (∃ (A29 : Option Addr) (n30 : Nat) (c31 : Nat), w27.cell? (((⟨g21, 0, none⟩ : Addr).add 1).add 0) = some (.slice A29 n30 c31) ∧ Cll Try.prog 104 #[(.slice A29 n30 c31), (.int .i64 n28)] w27 fun v32 w33 => (∃ (n34 : Int), v32 = (.int .i64 n34) ∧ bcase (decide (n34 < 0)) (K (.int .i64 (-1)) w33) (∃ (A35 : Option Addr) (n36 : Nat) (c37 : Nat), w33.cell? (((⟨g21, 0, none⟩ : Addr).add 2).add 0) = some (.slice A35 n36 c37) ∧ Cll Try.prog 105 #[(.slice A35 n36 c37), (.int .i64 n34)] w33 fun v38 w39 => (∃ (n40 : Int), v38 = (.int .i64 n40) ∧ bcase (decide (n40 < 0)) (K (.int .i64 (-1)) w39) (K (.int .i64 n40) w39))))))

def laws_heldBlock.ann : Ann := (.seq .l (.seq .l (.seq (.seq .l (.two (.seq .l .l) .l)) (.seq .l (.seq (.seq .l (.two (.seq .l .l) .l)) (.seq .l (.seq (.seq .l (.two (.seq .l .l) .l)) (.seq .l .l))))))))

theorem laws_heldBlock.vc_eq (A0_0 : Option Addr) (n0_0 : Nat) (c0_0 : Nat) (A0_1 : Option Addr) (n0_1 : Nat) (c0_1 : Nat) (A0_2 : Option Addr) (n0_2 : Nat) (c0_2 : Nat) (x0_3 : Int) (x0_4 : Int) (x1 : Int) (w : World) (K : Value → World → Prop) : vcF Try.prog Try.f47 laws_heldBlock.ann [(.agg #[(.slice A0_0 n0_0 c0_0), (.slice A0_1 n0_1 c0_1), (.slice A0_2 n0_2 c0_2), (.int .i64 x0_3), (.int .i64 x0_4)]), (.int .i64 x1)] K w = laws_heldBlock.vc A0_0 n0_0 c0_0 A0_1 n0_1 c0_1 A0_2 n0_2 c0_2 x0_3 x0_4 x1 w K := by kernel_rfl

theorem laws_heldBlock.start {A0_0 : Option Addr} {n0_0 : Nat} {c0_0 : Nat} {A0_1 : Option Addr} {n0_1 : Nat} {c0_1 : Nat} {A0_2 : Option Addr} {n0_2 : Nat} {c0_2 : Nat} {x0_3 : Int} {x0_4 : Int} {x1 : Int} {w : World} {K : Value → World → Prop} (h : laws_heldBlock.vc A0_0 n0_0 c0_0 A0_1 n0_1 c0_1 A0_2 n0_2 c0_2 x0_3 x0_4 x1 w K) : Cll Try.prog 47 #[(.agg #[(.slice A0_0 n0_0 c0_0), (.slice A0_1 n0_1 c0_1), (.slice A0_2 n0_2 c0_2), (.int .i64 x0_3), (.int .i64 x0_4)]), (.int .i64 x1)] w K :=
  vcF_sound mixed (fn := Try.f47) (by kernel_rfl) (by kernel_rfl) (an := laws_heldBlock.ann) (args := [(.agg #[(.slice A0_0 n0_0 c0_0), (.slice A0_1 n0_1 c0_1), (.slice A0_2 n0_2 c0_2), (.int .i64 x0_3), (.int .i64 x0_4)]), (.int .i64 x1)]) (by rw [laws_heldBlock.vc_eq]; exact h)

theorem laws_heldBlock.con {s0 : D.Block} {A0_0 : Option Addr} {c0_0 : Nat} {A0_1 : Option Addr} {c0_1 : Nat} {A0_2 : Option Addr} {c0_2 : Nat} {x1 : Int} {r : Int} {w : World} (hp : M.laws_heldBlock_pre s0 x1) (hr : r = M.laws_heldBlock s0 x1) (R0_0 : Row el99 w A0_0 s0.Code) (hc0_0 : s0.Code.length ≤ c0_0) (R0_1 : RowW 96 el134 el3 w A0_1 s0.Warps) (hc0_1 : s0.Warps.length ≤ c0_1) (R0_2 : Row el3 w A0_2 s0.Memory) (hc0_2 : s0.Memory.length ≤ c0_2) :
    Cll Try.prog 47 #[(.agg #[(.slice A0_0 s0.Code.length c0_0), (.slice A0_1 s0.Warps.length c0_1), (.slice A0_2 s0.Memory.length c0_2), (.int .i64 s0.Waiting), (.int .i64 s0.Phase)]), (.int .i64 x1)] w (fun v_ w_ => v_ = (.int .i64 r) ∧ Ext w w_) := by
  have H := wp.laws_heldBlock.math s0 x1 hp
  have hB := Ext.refl w
  refine laws_heldBlock.start ?_
  unfold laws_heldBlock.vc
  unfold wp.laws_heldBlock at H
  refine newBlk (fun g4_ w21 L4 P4 e22 => ?_)
  have O4 := P4
  have L4 := Nat.le_trans hB.size L4
  have hB := ethen hB e22
  refine ⟨_, _, _, (O4.at 0 rfl rfl), ?_⟩
  obtain ⟨hp25, H⟩ := H
  obtain ⟨r23, hr24⟩ : ∃ r_, r_ = M.laws_heldInsS s0.Code x1 := ⟨_, rfl⟩
  have H := H r23 hr24
  refine (laws_heldInsS.con hp25 hr24 (R0_0.ext hB) hc0_0).mono ?_
  rintro _ w26 ⟨rfl, e27⟩
  have O4 := O4.ext e27
  have hB := ethen hB e27
  refine ⟨r23, rfl, ?_⟩
  refine bcase_mk (fun hc40 => ?_) (fun hc40 => ?_)
  · have H := (bcase_iff.1 H).1 hc40
    obtain rfl := hr.trans H.symm
    exact ⟨rfl, hB⟩
  · have H := (bcase_iff.1 H).2 hc40
    refine ⟨_, _, _, (O4.at 1 rfl rfl), ?_⟩
    obtain ⟨hp30, H⟩ := H
    obtain ⟨r28, hr29⟩ : ∃ r_, r_ = M.laws_heldWarpS s0.Warps r23 := ⟨_, rfl⟩
    have H := H r28 hr29
    refine (laws_heldWarpS.con hp30 hr29 (R0_1.ext hB) hc0_1).mono ?_
    rintro _ w31 ⟨rfl, e32⟩
    have O4 := O4.ext e32
    have hB := ethen hB e32
    refine ⟨r28, rfl, ?_⟩
    refine bcase_mk (fun hc39 => ?_) (fun hc39 => ?_)
    · have H := (bcase_iff.1 H).1 hc39
      obtain rfl := hr.trans H.symm
      exact ⟨rfl, hB⟩
    · have H := (bcase_iff.1 H).2 hc39
      refine ⟨_, _, _, (O4.at 2 rfl rfl), ?_⟩
      obtain ⟨hp35, H⟩ := H
      obtain ⟨r33, hr34⟩ : ∃ r_, r_ = M.laws_heldIntS s0.Memory r28 := ⟨_, rfl⟩
      have H := H r33 hr34
      refine (laws_heldIntS.con hp35 hr34 (R0_2.ext hB) hc0_2).mono ?_
      rintro _ w36 ⟨rfl, e37⟩
      have O4 := O4.ext e37
      have hB := ethen hB e37
      refine ⟨r33, rfl, ?_⟩
      refine bcase_mk (fun hc38 => ?_) (fun hc38 => ?_)
      · have H := (bcase_iff.1 H).1 hc38
        obtain rfl := hr.trans H.symm
        exact ⟨rfl, hB⟩
      · have H := (bcase_iff.1 H).2 hc38
        obtain rfl := hr.trans H.symm
        exact ⟨rfl, hB⟩

def laws_FnExactBlockNew.vc (A0 : Option Addr) (n0 : Nat) (c0 : Nat) (x1 : Int) (w : World) (K : Value → World → Prop) : Prop :=
  Cll Try.prog 41 #[(.slice A0 n0 c0), (.int .i64 1048576)] w fun v21 w22 => (∃ (n23 : Int), v21 = (.int .i64 n23) ∧ bcase (decide (n23 < 0)) (K (.bool true) w22) (Cll Try.prog 43 #[(.slice A0 n0 c0)] w22 fun v24 w25 => (∃ (A26 : Option Addr) (n27 : Nat) (c28 : Nat), v24 = (.slice A26 n27 c28) ∧ Cll Try.prog 42 #[(.slice A26 n27 c28), (.int .i64 x1)] w25 fun v29 w30 => (∃ u31 : Value, (∃ (A32 : Option Addr) (n33 : Nat) (c34 : Nat), True ∧ ∃ (A35 : Option Addr) (n36 : Nat) (c37 : Nat), True ∧ ∃ (A38 : Option Addr) (n39 : Nat) (c40 : Nat), True ∧ ∃ (n41 : Int), True ∧ ∃ (n42 : Int), True ∧ u31 = (.agg #[(.slice A32 n33 c34), (.slice A35 n36 c37), (.slice A38 n39 c40), (.int .i64 n41), (.int .i64 n42)]) ∧ ∃ u43 : Value, (∃ (b44 : Bool), u43 = (.bool b44) ∧ v29 = (.tuple #[(.agg #[(.slice A32 n33 c34), (.slice A35 n36 c37), (.slice A38 n39 c40), (.int .i64 n41), (.int .i64 n42)]), (.bool b44)]) ∧ newK w30 (.cells #[(.slice none 0 0), (.slice none 0 0), (.slice none 0 0), (.int .i64 0), (.int .i64 0)] 48) fun g45 w46 => stCells (⟨g45, 0, none⟩ : Addr) [(.slice A32 n33 c34), (.slice A35 n36 c37), (.slice A38 n39 c40), (.int .i64 n41), (.int .i64 n42)] 0 w46 fun w47 => Cll Try.prog 43 #[(.slice A0 n0 c0)] w47 fun v48 w49 => (∃ (A50 : Option Addr) (n51 : Nat) (c52 : Nat), v48 = (.slice A50 n51 c52) ∧ Cll Try.prog 30 #[(.slice A50 n51 c52), (.int .i64 x1)] w49 fun v53 w54 => (∃ u55 : Value, (∃ (A56 : Option Addr) (n57 : Nat) (c58 : Nat), True ∧ ∃ (A59 : Option Addr) (n60 : Nat) (c61 : Nat), True ∧ ∃ (A62 : Option Addr) (n63 : Nat) (c64 : Nat), True ∧ ∃ (n65 : Int), True ∧ ∃ (n66 : Int), True ∧ u55 = (.agg #[(.slice A56 n57 c58), (.slice A59 n60 c61), (.slice A62 n63 c64), (.int .i64 n65), (.int .i64 n66)]) ∧ ∃ u67 : Value, (∃ (b68 : Bool), u67 = (.bool b68) ∧ v53 = (.tuple #[(.agg #[(.slice A56 n57 c58), (.slice A59 n60 c61), (.slice A62 n63 c64), (.int .i64 n65), (.int .i64 n66)]), (.bool b68)]) ∧ newK w54 (.cells #[(.slice none 0 0), (.slice none 0 0), (.slice none 0 0), (.int .i64 0), (.int .i64 0)] 48) fun g69 w70 => stCells (⟨g69, 0, none⟩ : Addr) [(.slice A56 n57 c58), (.slice A59 n60 c61), (.slice A62 n63 c64), (.int .i64 n65), (.int .i64 n66)] 0 w70 fun w71 => ∃ (A73 : Option Addr) (n74 : Nat) (c75 : Nat), w71.cell? ((⟨g69, 0, none⟩ : Addr).add 0) = some (.slice A73 n74 c75) ∧ ∃ (A76 : Option Addr) (n77 : Nat) (c78 : Nat), w71.cell? ((⟨g69, 0, none⟩ : Addr).add 1) = some (.slice A76 n77 c78) ∧ ∃ (A79 : Option Addr) (n80 : Nat) (c81 : Nat), w71.cell? ((⟨g69, 0, none⟩ : Addr).add 2) = some (.slice A79 n80 c81) ∧ ∃ (n82 : Int), w71.cell? ((⟨g69, 0, none⟩ : Addr).add 3) = some (.int .i64 n82) ∧ ∃ (n83 : Int), w71.cell? ((⟨g69, 0, none⟩ : Addr).add 4) = some (.int .i64 n83) ∧ ∃ (A84 : Option Addr) (n85 : Nat) (c86 : Nat), w71.cell? ((⟨g45, 0, none⟩ : Addr).add 0) = some (.slice A84 n85 c86) ∧ ∃ (A87 : Option Addr) (n88 : Nat) (c89 : Nat), w71.cell? ((⟨g45, 0, none⟩ : Addr).add 1) = some (.slice A87 n88 c89) ∧ ∃ (A90 : Option Addr) (n91 : Nat) (c92 : Nat), w71.cell? ((⟨g45, 0, none⟩ : Addr).add 2) = some (.slice A90 n91 c92) ∧ ∃ (n93 : Int), w71.cell? ((⟨g45, 0, none⟩ : Addr).add 3) = some (.int .i64 n93) ∧ ∃ (n94 : Int), w71.cell? ((⟨g45, 0, none⟩ : Addr).add 4) = some (.int .i64 n94) ∧ Cll Try.prog 37 #[(.agg #[(.slice A73 n74 c75), (.slice A76 n77 c78), (.slice A79 n80 c81), (.int .i64 n82), (.int .i64 n83)]), (.agg #[(.slice A84 n85 c86), (.slice A87 n88 c89), (.slice A90 n91 c92), (.int .i64 n93), (.int .i64 n94)])] w71 fun v95 w96 => (∃ (b97 : Bool), v95 = (.bool b97) ∧ bcase (!b97) (K (.bool false) w96) (bcase (!(b68 == b44)) (K (.bool false) w96) (Cll Try.prog 43 #[(.slice A0 n0 c0)] w96 fun v98 w99 => (∃ (A100 : Option Addr) (n101 : Nat) (c102 : Nat), v98 = (.slice A100 n101 c102) ∧ Cll Try.prog 44 #[(.slice A50 n51 c52), (.slice A100 n101 c102)] w99 fun v103 w104 => (∃ (b105 : Bool), v103 = (.bool b105) ∧ bcase (!b105) (K (.bool false) w104) (Cll Try.prog 45 #[(.slice A50 n51 c52), (.int .i64 1)] w104 fun v106 w107 => (∃ (n108 : Int), v106 = (.int .i64 n108) ∧ bcase (decide (n108 < 0)) (K (.bool false) w107) (∃ (A110 : Option Addr) (n111 : Nat) (c112 : Nat), w107.cell? ((⟨g69, 0, none⟩ : Addr).add 0) = some (.slice A110 n111 c112) ∧ ∃ (A113 : Option Addr) (n114 : Nat) (c115 : Nat), w107.cell? ((⟨g69, 0, none⟩ : Addr).add 1) = some (.slice A113 n114 c115) ∧ ∃ (A116 : Option Addr) (n117 : Nat) (c118 : Nat), w107.cell? ((⟨g69, 0, none⟩ : Addr).add 2) = some (.slice A116 n117 c118) ∧ ∃ (n119 : Int), w107.cell? ((⟨g69, 0, none⟩ : Addr).add 3) = some (.int .i64 n119) ∧ ∃ (n120 : Int), w107.cell? ((⟨g69, 0, none⟩ : Addr).add 4) = some (.int .i64 n120) ∧ ∃ (A121 : Option Addr) (n122 : Nat) (c123 : Nat), w107.cell? ((⟨g45, 0, none⟩ : Addr).add 0) = some (.slice A121 n122 c123) ∧ ∃ (A124 : Option Addr) (n125 : Nat) (c126 : Nat), w107.cell? ((⟨g45, 0, none⟩ : Addr).add 1) = some (.slice A124 n125 c126) ∧ ∃ (A127 : Option Addr) (n128 : Nat) (c129 : Nat), w107.cell? ((⟨g45, 0, none⟩ : Addr).add 2) = some (.slice A127 n128 c129) ∧ ∃ (n130 : Int), w107.cell? ((⟨g45, 0, none⟩ : Addr).add 3) = some (.int .i64 n130) ∧ ∃ (n131 : Int), w107.cell? ((⟨g45, 0, none⟩ : Addr).add 4) = some (.int .i64 n131) ∧ Cll Try.prog 37 #[(.agg #[(.slice A110 n111 c112), (.slice A113 n114 c115), (.slice A116 n117 c118), (.int .i64 n119), (.int .i64 n120)]), (.agg #[(.slice A121 n122 c123), (.slice A124 n125 c126), (.slice A127 n128 c129), (.int .i64 n130), (.int .i64 n131)])] w107 fun v132 w133 => (∃ (b134 : Bool), v132 = (.bool b134) ∧ bcase (!b134) (K (.bool false) w133) (bcase (!(b68 == b44)) (K (.bool false) w133) (∃ (A135 : Option Addr) (n136 : Nat) (c137 : Nat), w133.cell? ((⟨g69, 0, none⟩ : Addr).add 0) = some (.slice A135 n136 c137) ∧ ∃ (A138 : Option Addr) (n139 : Nat) (c140 : Nat), w133.cell? ((⟨g69, 0, none⟩ : Addr).add 1) = some (.slice A138 n139 c140) ∧ ∃ (A141 : Option Addr) (n142 : Nat) (c143 : Nat), w133.cell? ((⟨g69, 0, none⟩ : Addr).add 2) = some (.slice A141 n142 c143) ∧ ∃ (n144 : Int), w133.cell? ((⟨g69, 0, none⟩ : Addr).add 3) = some (.int .i64 n144) ∧ ∃ (n145 : Int), w133.cell? ((⟨g69, 0, none⟩ : Addr).add 4) = some (.int .i64 n145) ∧ Cll Try.prog 46 #[(.agg #[(.slice A135 n136 c137), (.slice A138 n139 c140), (.slice A141 n142 c143), (.int .i64 n144), (.int .i64 n145)]), (.int .i64 1)] w133 fun v146 w147 => (∃ (n148 : Int), v146 = (.int .i64 n148) ∧ ∃ (A149 : Option Addr) (n150 : Nat) (c151 : Nat), w147.cell? ((⟨g69, 0, none⟩ : Addr).add 0) = some (.slice A149 n150 c151) ∧ ∃ (A152 : Option Addr) (n153 : Nat) (c154 : Nat), w147.cell? ((⟨g69, 0, none⟩ : Addr).add 1) = some (.slice A152 n153 c154) ∧ ∃ (A155 : Option Addr) (n156 : Nat) (c157 : Nat), w147.cell? ((⟨g69, 0, none⟩ : Addr).add 2) = some (.slice A155 n156 c157) ∧ ∃ (n158 : Int), w147.cell? ((⟨g69, 0, none⟩ : Addr).add 3) = some (.int .i64 n158) ∧ ∃ (n159 : Int), w147.cell? ((⟨g69, 0, none⟩ : Addr).add 4) = some (.int .i64 n159) ∧ Cll Try.prog 47 #[(.agg #[(.slice A149 n150 c151), (.slice A152 n153 c154), (.slice A155 n156 c157), (.int .i64 n158), (.int .i64 n159)]), (.int .i64 1)] w147 fun v160 w161 => (∃ (n162 : Int), v160 = (.int .i64 n162) ∧ bcase (decide (n162 < 0)) (K (.bool false) w161) (bcase (n162 != n148) (K (.bool false) w161) (Cll Try.prog 43 #[(.slice A0 n0 c0)] w161 fun v163 w164 => (∃ (A165 : Option Addr) (n166 : Nat) (c167 : Nat), v163 = (.slice A165 n166 c167) ∧ Cll Try.prog 30 #[(.slice A165 n166 c167), (.int .i64 x1)] w164 fun v168 w169 => (∃ u170 : Value, (∃ (A171 : Option Addr) (n172 : Nat) (c173 : Nat), True ∧ ∃ (A174 : Option Addr) (n175 : Nat) (c176 : Nat), True ∧ ∃ (A177 : Option Addr) (n178 : Nat) (c179 : Nat), True ∧ ∃ (n180 : Int), True ∧ ∃ (n181 : Int), True ∧ u170 = (.agg #[(.slice A171 n172 c173), (.slice A174 n175 c176), (.slice A177 n178 c179), (.int .i64 n180), (.int .i64 n181)]) ∧ ∃ u182 : Value, (∃ (b183 : Bool), u182 = (.bool b183) ∧ v168 = (.tuple #[(.agg #[(.slice A171 n172 c173), (.slice A174 n175 c176), (.slice A177 n178 c179), (.int .i64 n180), (.int .i64 n181)]), (.bool b183)]) ∧ newK w169 (.cells #[(.slice none 0 0), (.slice none 0 0), (.slice none 0 0), (.int .i64 0), (.int .i64 0)] 48) fun g184 w185 => stCells (⟨g184, 0, none⟩ : Addr) [(.slice A171 n172 c173), (.slice A174 n175 c176), (.slice A177 n178 c179), (.int .i64 n180), (.int .i64 n181)] 0 w185 fun w186 => ∃ (A188 : Option Addr) (n189 : Nat) (c190 : Nat), w186.cell? ((⟨g184, 0, none⟩ : Addr).add 0) = some (.slice A188 n189 c190) ∧ ∃ (A191 : Option Addr) (n192 : Nat) (c193 : Nat), w186.cell? ((⟨g184, 0, none⟩ : Addr).add 1) = some (.slice A191 n192 c193) ∧ ∃ (A194 : Option Addr) (n195 : Nat) (c196 : Nat), w186.cell? ((⟨g184, 0, none⟩ : Addr).add 2) = some (.slice A194 n195 c196) ∧ ∃ (n197 : Int), w186.cell? ((⟨g184, 0, none⟩ : Addr).add 3) = some (.int .i64 n197) ∧ ∃ (n198 : Int), w186.cell? ((⟨g184, 0, none⟩ : Addr).add 4) = some (.int .i64 n198) ∧ ∃ (A199 : Option Addr) (n200 : Nat) (c201 : Nat), w186.cell? ((⟨g45, 0, none⟩ : Addr).add 0) = some (.slice A199 n200 c201) ∧ ∃ (A202 : Option Addr) (n203 : Nat) (c204 : Nat), w186.cell? ((⟨g45, 0, none⟩ : Addr).add 1) = some (.slice A202 n203 c204) ∧ ∃ (A205 : Option Addr) (n206 : Nat) (c207 : Nat), w186.cell? ((⟨g45, 0, none⟩ : Addr).add 2) = some (.slice A205 n206 c207) ∧ ∃ (n208 : Int), w186.cell? ((⟨g45, 0, none⟩ : Addr).add 3) = some (.int .i64 n208) ∧ ∃ (n209 : Int), w186.cell? ((⟨g45, 0, none⟩ : Addr).add 4) = some (.int .i64 n209) ∧ Cll Try.prog 37 #[(.agg #[(.slice A188 n189 c190), (.slice A191 n192 c193), (.slice A194 n195 c196), (.int .i64 n197), (.int .i64 n198)]), (.agg #[(.slice A199 n200 c201), (.slice A202 n203 c204), (.slice A205 n206 c207), (.int .i64 n208), (.int .i64 n209)])] w186 fun v210 w211 => (∃ (b212 : Bool), v210 = (.bool b212) ∧ bcase (!b212) (K (.bool false) w211) (bcase (!(b183 == b44)) (K (.bool false) w211) (∃ (A213 : Option Addr) (n214 : Nat) (c215 : Nat), w211.cell? ((⟨g69, 0, none⟩ : Addr).add 0) = some (.slice A213 n214 c215) ∧ ∃ (A216 : Option Addr) (n217 : Nat) (c218 : Nat), w211.cell? ((⟨g69, 0, none⟩ : Addr).add 1) = some (.slice A216 n217 c218) ∧ ∃ (A219 : Option Addr) (n220 : Nat) (c221 : Nat), w211.cell? ((⟨g69, 0, none⟩ : Addr).add 2) = some (.slice A219 n220 c221) ∧ ∃ (n222 : Int), w211.cell? ((⟨g69, 0, none⟩ : Addr).add 3) = some (.int .i64 n222) ∧ ∃ (n223 : Int), w211.cell? ((⟨g69, 0, none⟩ : Addr).add 4) = some (.int .i64 n223) ∧ Cll Try.prog 47 #[(.agg #[(.slice A213 n214 c215), (.slice A216 n217 c218), (.slice A219 n220 c221), (.int .i64 n222), (.int .i64 n223)]), (.int .i64 1)] w211 fun v224 w225 => (∃ (n226 : Int), v224 = (.int .i64 n226) ∧ bcase (decide (n226 < 0)) (K (.bool false) w225) (bcase (n226 != n148) (K (.bool false) w225) (K (.bool true) w225)))))))))))))))))))))))))))))))))))

def laws_FnExactBlockNew.ann : Ann := (.seq .l (.seq .l (.seq .l (.seq (.seq .l (.two (.seq .l .l) .l)) (.seq .l (.seq .l (.seq .l (.seq (.seq .l (.two (.seq .l .l) .l)) (.seq (.seq .l (.two (.seq .l .l) .l)) (.seq .l (.seq .l (.seq (.seq .l (.two (.seq .l .l) .l)) (.seq .l (.seq .l (.seq .l (.seq .l (.seq (.seq .l (.two (.seq .l .l) .l)) (.seq (.seq .l (.two (.seq .l .l) .l)) (.seq .l (.seq (.seq .l (.two (.seq .l .l) .l)) (.seq .l (.seq .l (.seq (.seq .l (.two (.seq .l .l) .l)) (.seq (.seq .l (.two (.seq .l .l) .l)) (.seq .l .l)))))))))))))))))))))))))

theorem laws_FnExactBlockNew.vc_eq (A0 : Option Addr) (n0 : Nat) (c0 : Nat) (x1 : Int) (w : World) (K : Value → World → Prop) : vcF Try.prog Try.f10 laws_FnExactBlockNew.ann [(.slice A0 n0 c0), (.int .i64 x1)] K w = laws_FnExactBlockNew.vc A0 n0 c0 x1 w K := by kernel_rfl

theorem laws_FnExactBlockNew.start {A0 : Option Addr} {n0 : Nat} {c0 : Nat} {x1 : Int} {w : World} {K : Value → World → Prop} (h : laws_FnExactBlockNew.vc A0 n0 c0 x1 w K) : Cll Try.prog 10 #[(.slice A0 n0 c0), (.int .i64 x1)] w K :=
  vcF_sound mixed (fn := Try.f10) (by kernel_rfl) (by kernel_rfl) (an := laws_FnExactBlockNew.ann) (args := [(.slice A0 n0 c0), (.int .i64 x1)]) (by rw [laws_FnExactBlockNew.vc_eq]; exact h)

theorem laws_FnExactBlockNew.con {xs0 : List D.Ins} {A0 : Option Addr} {c0 : Nat} {x1 : Int} {r : Bool} {w : World} (hp : M.laws_FnExactBlockNew_pre xs0 x1) (hr : r = M.laws_FnExactBlockNew xs0 x1) (R0 : Row el109 w A0 xs0) (hc0 : xs0.length ≤ c0) :
    Cll Try.prog 10 #[(.slice A0 xs0.length c0), (.int .i64 x1)] w (fun v_ w_ => v_ = (.bool r) ∧ Ext w w_) := by
  have H := wp.laws_FnExactBlockNew.math xs0 x1 hp
  have hB := Ext.refl w
  refine laws_FnExactBlockNew.start ?_
  unfold laws_FnExactBlockNew.vc
  unfold wp.laws_FnExactBlockNew at H
  obtain ⟨hp23, H⟩ := H
  obtain ⟨r21, hr22⟩ : ∃ r_, r_ = M.laws_szInsS xs0 1048576 := ⟨_, rfl⟩
  have H := H r21 hr22
  refine (laws_szInsS.con hp23 hr22 (R0.ext hB) hc0).mono ?_
  rintro _ w24 ⟨rfl, e25⟩
  have hB := ethen hB e25
  refine ⟨r21, rfl, ?_⟩
  refine bcase_mk (fun hc158 => ?_) (fun hc158 => ?_)
  · have H := (bcase_iff.1 H).1 hc158
    obtain rfl := hr.trans H.symm
    exact ⟨rfl, hB⟩
  · have H := (bcase_iff.1 H).2 hc158
    obtain ⟨hp28, H⟩ := H
    obtain ⟨r26, hr27⟩ : ∃ r_, r_ = M.laws_toInsS xs0 := ⟨_, rfl⟩
    have H := H r26 hr27
    refine (laws_toInsS.con hp28 hr27 (R0.ext hB) hc0).mono ?_
    rintro _ w29 ⟨A31, c32, rfl, P2, e30⟩
    have O2 := P2.mono hB.size
    have hB := ethen hB e30
    refine ⟨A31, r26.length, c32, rfl, ?_⟩
    obtain ⟨hp35, H⟩ := H
    obtain ⟨r33, hr34⟩ : ∃ r_, r_ = M.spec_BlockNew r26 x1 := ⟨_, rfl⟩
    have H := H r33 hr34
    refine (spec_BlockNew.con hp35 hr34 O2.row O2.le).mono ?_
    rintro _ w36 ⟨A38, c39, A40, c41, F44, A42, c43, rfl, P3, P4, P5, N4_5, e37⟩
    have N2_3 := Own.apart2_new O2 P3 (Nat.le_refl _)
    have N4_2 := P4.new_dis O2 (Nat.le_refl _)
    have N2_5 := Own.apart2_new O2 P5 (Nat.le_refl _)
    have O2 := O2.ext e37
    have O3 := P3.mono hB.size
    have O4 := P4.mono hB.size
    have O5 := P5.mono hB.size
    have hB := ethen hB e37
    refine ⟨(.agg #[(.slice A38 r33.1.Code.length c39), (.slice A40 r33.1.Warps.length c41), (.slice A42 r33.1.Memory.length c43), (.int .i64 r33.1.Waiting), (.int .i64 r33.1.Phase)]), ?_⟩
    refine ⟨A38, r33.1.Code.length, c39, trivial, ?_⟩
    refine ⟨A40, r33.1.Warps.length, c41, trivial, ?_⟩
    refine ⟨A42, r33.1.Memory.length, c43, trivial, ?_⟩
    refine ⟨r33.1.Waiting, trivial, ?_⟩
    refine ⟨r33.1.Phase, trivial, ?_⟩
    refine ⟨rfl, ?_⟩
    refine ⟨(.bool r33.2), ?_⟩
    refine ⟨r33.2, rfl, ?_⟩
    refine ⟨rfl, ?_⟩
    refine newBlk (fun g6_ w45 L6 P6 e46 => ?_)
    have N2_6 := O2.apart_new L6
    have N3_6 := O3.apart_new L6
    have N4_6 := O4.dis_newbox L6
    have N5_6 := O5.apart_new L6
    have O2 := O2.ext e46
    have O3 := O3.ext e46
    have O4 := O4.ext e46
    have O5 := O5.ext e46
    have O6 := P6
    have L6 := Nat.le_trans hB.size L6
    have hB := ethen hB e46
    refine stBlk O6 (o := 0) (cs' := #[(.slice A38 r33.1.Code.length c39), (.slice A40 r33.1.Warps.length c41), (.slice A42 r33.1.Memory.length c43), (.int .i64 r33.1.Waiting), (.int .i64 r33.1.Phase)]) rfl rfl (Nat.le_of_ble_eq_true rfl) rfl (fun w47 P6 e48 => ?_)
    have O2_ := O2.chg e48 N2_6
    have O3_ := O3.chg e48 N3_6
    have O4_ := O4.chg e48 N4_6
    have O5_ := O5.chg e48 N5_6
    have O2 := O2_
    have O3 := O3_
    have O4 := O4_
    have O5 := O5_
    have hB := echg hB e48 L6
    have O6 := P6
    obtain ⟨hp51, H⟩ := H
    obtain ⟨r49, hr50⟩ : ∃ r_, r_ = M.laws_toInsS xs0 := ⟨_, rfl⟩
    have H := H r49 hr50
    refine (laws_toInsS.con hp51 hr50 (R0.ext hB) hc0).mono ?_
    rintro _ w52 ⟨A54, c55, rfl, P7, e53⟩
    have N2_7 := Own.apart2_new O2 P7 (Nat.le_refl _)
    have N3_7 := Own.apart2_new O3 P7 (Nat.le_refl _)
    have N4_7 := O4.dis_new P7 (Nat.le_refl _)
    have N5_7 := Own.apart2_new O5 P7 (Nat.le_refl _)
    have N7_6 := P7.apart_old O6.lt
    have O2 := O2.ext e53
    have O3 := O3.ext e53
    have O4 := O4.ext e53
    have O5 := O5.ext e53
    have O6 := O6.ext e53
    have O7 := P7.mono hB.size
    have hB := ethen hB e53
    refine ⟨A54, r49.length, c55, rfl, ?_⟩
    obtain ⟨hp58, H⟩ := H
    obtain ⟨r56, hr57⟩ : ∃ r_, r_ = M.impl_BlockNew r49 x1 := ⟨_, rfl⟩
    have H := H r56 hr57
    refine (impl_BlockNew.con hp58 hr57 O7.row O7.le).mono ?_
    rintro _ w59 ⟨A61, c62, A63, c64, F67, A65, c66, rfl, P8, P9, P10, N9_10, e60⟩
    have N2_8 := Own.apart2_new O2 P8 (Nat.le_refl _)
    have N3_8 := Own.apart2_new O3 P8 (Nat.le_refl _)
    have N4_8 := O4.dis_new P8 (Nat.le_refl _)
    have N5_8 := Own.apart2_new O5 P8 (Nat.le_refl _)
    have N8_6 := P8.apart_old O6.lt
    have N7_8 := Own.apart2_new O7 P8 (Nat.le_refl _)
    have N9_2 := P9.new_dis O2 (Nat.le_refl _)
    have N9_3 := P9.new_dis O3 (Nat.le_refl _)
    have N4_9 := O4.dis_neww P9 (Nat.le_refl _)
    have N9_5 := P9.new_dis O5 (Nat.le_refl _)
    have N9_6 := P9.new_disbox O6 (Nat.le_refl _)
    have N9_7 := P9.new_dis O7 (Nat.le_refl _)
    have N2_10 := Own.apart2_new O2 P10 (Nat.le_refl _)
    have N3_10 := Own.apart2_new O3 P10 (Nat.le_refl _)
    have N4_10 := O4.dis_new P10 (Nat.le_refl _)
    have N5_10 := Own.apart2_new O5 P10 (Nat.le_refl _)
    have N10_6 := P10.apart_old O6.lt
    have N7_10 := Own.apart2_new O7 P10 (Nat.le_refl _)
    have O2 := O2.ext e60
    have O3 := O3.ext e60
    have O4 := O4.ext e60
    have O5 := O5.ext e60
    have O6 := O6.ext e60
    have O7 := O7.ext e60
    have O8 := P8.mono hB.size
    have O9 := P9.mono hB.size
    have O10 := P10.mono hB.size
    have hB := ethen hB e60
    refine ⟨(.agg #[(.slice A61 r56.1.Code.length c62), (.slice A63 r56.1.Warps.length c64), (.slice A65 r56.1.Memory.length c66), (.int .i64 r56.1.Waiting), (.int .i64 r56.1.Phase)]), ?_⟩
    refine ⟨A61, r56.1.Code.length, c62, trivial, ?_⟩
    refine ⟨A63, r56.1.Warps.length, c64, trivial, ?_⟩
    refine ⟨A65, r56.1.Memory.length, c66, trivial, ?_⟩
    refine ⟨r56.1.Waiting, trivial, ?_⟩
    refine ⟨r56.1.Phase, trivial, ?_⟩
    refine ⟨rfl, ?_⟩
    refine ⟨(.bool r56.2), ?_⟩
    refine ⟨r56.2, rfl, ?_⟩
    refine ⟨rfl, ?_⟩
    refine newBlk (fun g11_ w68 L11 P11 e69 => ?_)
    have N2_11 := O2.apart_new L11
    have N3_11 := O3.apart_new L11
    have N4_11 := O4.dis_newbox L11
    have N5_11 := O5.apart_new L11
    have N6_11 := O6.ne L11
    have N7_11 := O7.apart_new L11
    have N8_11 := O8.apart_new L11
    have N9_11 := O9.dis_newbox L11
    have N10_11 := O10.apart_new L11
    have O2 := O2.ext e69
    have O3 := O3.ext e69
    have O4 := O4.ext e69
    have O5 := O5.ext e69
    have O6 := O6.ext e69
    have O7 := O7.ext e69
    have O8 := O8.ext e69
    have O9 := O9.ext e69
    have O10 := O10.ext e69
    have O11 := P11
    have L11 := Nat.le_trans hB.size L11
    have hB := ethen hB e69
    refine stBlk O11 (o := 0) (cs' := #[(.slice A61 r56.1.Code.length c62), (.slice A63 r56.1.Warps.length c64), (.slice A65 r56.1.Memory.length c66), (.int .i64 r56.1.Waiting), (.int .i64 r56.1.Phase)]) rfl rfl (Nat.le_of_ble_eq_true rfl) rfl (fun w70 P11 e71 => ?_)
    have O2_ := O2.chg e71 N2_11
    have O3_ := O3.chg e71 N3_11
    have O4_ := O4.chg e71 N4_11
    have O5_ := O5.chg e71 N5_11
    have O6_ := O6.chg e71 N6_11
    have O7_ := O7.chg e71 N7_11
    have O8_ := O8.chg e71 N8_11
    have O9_ := O9.chg e71 N9_11
    have O10_ := O10.chg e71 N10_11
    have O2 := O2_
    have O3 := O3_
    have O4 := O4_
    have O5 := O5_
    have O6 := O6_
    have O7 := O7_
    have O8 := O8_
    have O9 := O9_
    have O10 := O10_
    have hB := echg hB e71 L11
    have O11 := P11
    refine ⟨_, _, _, (O11.at 0 rfl rfl), ?_⟩
    refine ⟨_, _, _, (O11.at 1 rfl rfl), ?_⟩
    refine ⟨_, _, _, (O11.at 2 rfl rfl), ?_⟩
    refine ⟨_, (O11.at 3 rfl rfl), ?_⟩
    refine ⟨_, (O11.at 4 rfl rfl), ?_⟩
    refine ⟨_, _, _, (O6.at 0 rfl rfl), ?_⟩
    refine ⟨_, _, _, (O6.at 1 rfl rfl), ?_⟩
    refine ⟨_, _, _, (O6.at 2 rfl rfl), ?_⟩
    refine ⟨_, (O6.at 3 rfl rfl), ?_⟩
    refine ⟨_, (O6.at 4 rfl rfl), ?_⟩
    obtain ⟨hp74, H⟩ := H
    obtain ⟨r72, hr73⟩ : ∃ r_, r_ = M.laws_eqBlock r56.1 r33.1 := ⟨_, rfl⟩
    have H := H r72 hr73
    refine (laws_eqBlock.con hp74 hr73 O8.row O8.le O9.row O9.le O10.row O10.le O3.row O3.le O4.row O4.le O5.row O5.le).mono ?_
    rintro _ w75 ⟨rfl, e76⟩
    have O2 := O2.ext e76
    have O3 := O3.ext e76
    have O4 := O4.ext e76
    have O5 := O5.ext e76
    have O6 := O6.ext e76
    have O7 := O7.ext e76
    have O8 := O8.ext e76
    have O9 := O9.ext e76
    have O10 := O10.ext e76
    have O11 := O11.ext e76
    have hB := ethen hB e76
    refine ⟨r72, rfl, ?_⟩
    refine bcase_mk (fun hc157 => ?_) (fun hc157 => ?_)
    · have H := (bcase_iff.1 H).1 hc157
      obtain rfl := hr.trans H.symm
      exact ⟨rfl, hB⟩
    · have H := (bcase_iff.1 H).2 hc157
      refine bcase_mk (fun hc156 => ?_) (fun hc156 => ?_)
      · have H := (bcase_iff.1 H).1 hc156
        obtain rfl := hr.trans H.symm
        exact ⟨rfl, hB⟩
      · have H := (bcase_iff.1 H).2 hc156
        obtain ⟨hp79, H⟩ := H
        obtain ⟨r77, hr78⟩ : ∃ r_, r_ = M.laws_toInsS xs0 := ⟨_, rfl⟩
        have H := H r77 hr78
        refine (laws_toInsS.con hp79 hr78 (R0.ext hB) hc0).mono ?_
        rintro _ w80 ⟨A82, c83, rfl, P12, e81⟩
        have N2_12 := Own.apart2_new O2 P12 (Nat.le_refl _)
        have N3_12 := Own.apart2_new O3 P12 (Nat.le_refl _)
        have N4_12 := O4.dis_new P12 (Nat.le_refl _)
        have N5_12 := Own.apart2_new O5 P12 (Nat.le_refl _)
        have N12_6 := P12.apart_old O6.lt
        have N7_12 := Own.apart2_new O7 P12 (Nat.le_refl _)
        have N8_12 := Own.apart2_new O8 P12 (Nat.le_refl _)
        have N9_12 := O9.dis_new P12 (Nat.le_refl _)
        have N10_12 := Own.apart2_new O10 P12 (Nat.le_refl _)
        have N12_11 := P12.apart_old O11.lt
        have O2 := O2.ext e81
        have O3 := O3.ext e81
        have O4 := O4.ext e81
        have O5 := O5.ext e81
        have O6 := O6.ext e81
        have O7 := O7.ext e81
        have O8 := O8.ext e81
        have O9 := O9.ext e81
        have O10 := O10.ext e81
        have O11 := O11.ext e81
        have O12 := P12.mono hB.size
        have hB := ethen hB e81
        refine ⟨A82, r77.length, c83, rfl, ?_⟩
        obtain ⟨hp86, H⟩ := H
        obtain ⟨r84, hr85⟩ : ∃ r_, r_ = M.laws_eqInsS r49 r77 := ⟨_, rfl⟩
        have H := H r84 hr85
        refine (laws_eqInsS.con hp86 hr85 O7.row O7.le O12.row O12.le).mono ?_
        rintro _ w87 ⟨rfl, e88⟩
        have O2 := O2.ext e88
        have O3 := O3.ext e88
        have O4 := O4.ext e88
        have O5 := O5.ext e88
        have O6 := O6.ext e88
        have O7 := O7.ext e88
        have O8 := O8.ext e88
        have O9 := O9.ext e88
        have O10 := O10.ext e88
        have O11 := O11.ext e88
        have O12 := O12.ext e88
        have hB := ethen hB e88
        refine ⟨r84, rfl, ?_⟩
        refine bcase_mk (fun hc155 => ?_) (fun hc155 => ?_)
        · have H := (bcase_iff.1 H).1 hc155
          obtain rfl := hr.trans H.symm
          exact ⟨rfl, hB⟩
        · have H := (bcase_iff.1 H).2 hc155
          obtain ⟨hp91, H⟩ := H
          obtain ⟨r89, hr90⟩ : ∃ r_, r_ = M.laws_markInsS r49 1 := ⟨_, rfl⟩
          have H := H r89 hr90
          refine (laws_markInsS.con hp91 hr90 (O7.mono (Nat.zero_le _))).mono ?_
          rintro _ w92 ⟨rfl, Q7, hl94, e93⟩
          have O2 := O2.chgS e93 (N2_7).inb
          have O3 := O3.chgS e93 (N3_7).inb
          have O4 := O4.kept e93 N4_7
          have O5 := O5.chgS e93 (N5_7).inb
          have O6 := O6.chgS e93 (N7_6).inb
          have O8 := O8.chgS e93 ((N7_8).symm).inb
          have O9 := O9.kept e93 N9_7
          have O10 := O10.chgS e93 ((N7_10).symm).inb
          have O11 := O11.chgS e93 (N7_11).inb
          have O12 := O12.chgS e93 ((N7_12).symm).inb
          have hB := Chg.ext hB e93 O7.low
          have O7 := Q7.up O7
          refine ⟨r89.1, rfl, ?_⟩
          refine bcase_mk (fun hc154 => ?_) (fun hc154 => ?_)
          · have H := (bcase_iff.1 H).1 hc154
            obtain rfl := hr.trans H.symm
            exact ⟨rfl, hB⟩
          · have H := (bcase_iff.1 H).2 hc154
            refine ⟨_, _, _, (O11.at 0 rfl rfl), ?_⟩
            refine ⟨_, _, _, (O11.at 1 rfl rfl), ?_⟩
            refine ⟨_, _, _, (O11.at 2 rfl rfl), ?_⟩
            refine ⟨_, (O11.at 3 rfl rfl), ?_⟩
            refine ⟨_, (O11.at 4 rfl rfl), ?_⟩
            refine ⟨_, _, _, (O6.at 0 rfl rfl), ?_⟩
            refine ⟨_, _, _, (O6.at 1 rfl rfl), ?_⟩
            refine ⟨_, _, _, (O6.at 2 rfl rfl), ?_⟩
            refine ⟨_, (O6.at 3 rfl rfl), ?_⟩
            refine ⟨_, (O6.at 4 rfl rfl), ?_⟩
            obtain ⟨hp97, H⟩ := H
            obtain ⟨r95, hr96⟩ : ∃ r_, r_ = M.laws_eqBlock r56.1 r33.1 := ⟨_, rfl⟩
            have H := H r95 hr96
            refine (laws_eqBlock.con hp97 hr96 O8.row O8.le O9.row O9.le O10.row O10.le O3.row O3.le O4.row O4.le O5.row O5.le).mono ?_
            rintro _ w98 ⟨rfl, e99⟩
            have O2 := O2.ext e99
            have O3 := O3.ext e99
            have O4 := O4.ext e99
            have O5 := O5.ext e99
            have O6 := O6.ext e99
            have O7 := O7.ext e99
            have O8 := O8.ext e99
            have O9 := O9.ext e99
            have O10 := O10.ext e99
            have O11 := O11.ext e99
            have O12 := O12.ext e99
            have hB := ethen hB e99
            refine ⟨r95, rfl, ?_⟩
            refine bcase_mk (fun hc153 => ?_) (fun hc153 => ?_)
            · have H := (bcase_iff.1 H).1 hc153
              obtain rfl := hr.trans H.symm
              exact ⟨rfl, hB⟩
            · have H := (bcase_iff.1 H).2 hc153
              refine bcase_mk (fun hc152 => ?_) (fun hc152 => ?_)
              · have H := (bcase_iff.1 H).1 hc152
                obtain rfl := hr.trans H.symm
                exact ⟨rfl, hB⟩
              · have H := (bcase_iff.1 H).2 hc152
                refine ⟨_, _, _, (O11.at 0 rfl rfl), ?_⟩
                refine ⟨_, _, _, (O11.at 1 rfl rfl), ?_⟩
                refine ⟨_, _, _, (O11.at 2 rfl rfl), ?_⟩
                refine ⟨_, (O11.at 3 rfl rfl), ?_⟩
                refine ⟨_, (O11.at 4 rfl rfl), ?_⟩
                obtain ⟨hp102, H⟩ := H
                obtain ⟨r100, hr101⟩ : ∃ r_, r_ = M.laws_markBlock r56.1 1 := ⟨_, rfl⟩
                have H := H r100 hr101
                refine (laws_markBlock.con hp102 hr101 (O8.mono (Nat.zero_le _)) (O9.mono (Nat.zero_le _)) (O10.mono (Nat.zero_le _)) N9_10).mono ?_
                rintro _ w103 ⟨rfl, Q8, hl105, Q9, hl106, Q10, hl107, e104⟩
                have O2 := O2.chgS e104 (fun g h_ => (fun hS_ => hS_.elim ((N2_8).inb g h_) (fun hS_ => hS_.elim ((N9_2).symm g h_) ((N2_10).inb g h_))))
                have O3 := O3.chgS e104 (fun g h_ => (fun hS_ => hS_.elim ((N3_8).inb g h_) (fun hS_ => hS_.elim ((N9_3).symm g h_) ((N3_10).inb g h_))))
                have O4 := O4.kept e104 (fun g h_ => (fun hS_ => hS_.elim (N4_8 g h_) (fun hS_ => hS_.elim (N4_9 g h_) (N4_10 g h_))))
                have O5 := O5.chgS e104 (fun g h_ => (fun hS_ => hS_.elim ((N5_8).inb g h_) (fun hS_ => hS_.elim ((N9_5).symm g h_) ((N5_10).inb g h_))))
                have O6 := O6.chgS e104 (fun hS_ => hS_.elim (N8_6).inb (fun hS_ => hS_.elim N9_6 (N10_6).inb))
                have O7 := O7.chgS e104 (fun g h_ => (fun hS_ => hS_.elim ((N7_8).inb g h_) (fun hS_ => hS_.elim ((N9_7).symm g h_) ((N7_10).inb g h_))))
                have O11 := O11.chgS e104 (fun hS_ => hS_.elim (N8_11).inb (fun hS_ => hS_.elim N9_11 (N10_11).inb))
                have O12 := O12.chgS e104 (fun g h_ => (fun hS_ => hS_.elim (((N8_12).symm).inb g h_) (fun hS_ => hS_.elim ((N9_12).symm g h_) (((N10_12).symm).inb g h_))))
                have hB := Chg.ext hB e104 (fun g => (fun hS_ => hS_.elim (O8.low g) (fun hS_ => hS_.elim (O9.lowW g) (O10.low g))))
                have O8 := Q8.up O8
                have O9 := Q9.up O9
                have O10 := Q10.up O10
                refine ⟨r100.1, rfl, ?_⟩
                refine ⟨_, _, _, (O11.at 0 rfl rfl), ?_⟩
                refine ⟨_, _, _, (O11.at 1 rfl rfl), ?_⟩
                refine ⟨_, _, _, (O11.at 2 rfl rfl), ?_⟩
                refine ⟨_, (O11.at 3 rfl rfl), ?_⟩
                refine ⟨_, (O11.at 4 rfl rfl), ?_⟩
                obtain ⟨hp110, H⟩ := H
                obtain ⟨r108, hr109⟩ : ∃ r_, r_ = M.laws_heldBlock (⟨r100.2.1, r100.2.2.1, r100.2.2.2, r56.1.Waiting, r56.1.Phase⟩ : D.Block) 1 := ⟨_, rfl⟩
                have H := H r108 hr109
                refine (cllArgs (by first | (simp only [List.length_set, hl105, hl106, hl107]; done) | (simp; done)) (laws_heldBlock.con hp110 hr109 O8.row O8.le O9.row O9.le O10.row O10.le)).mono ?_
                rintro _ w111 ⟨rfl, e112⟩
                have O2 := O2.ext e112
                have O3 := O3.ext e112
                have O4 := O4.ext e112
                have O5 := O5.ext e112
                have O6 := O6.ext e112
                have O7 := O7.ext e112
                have O8 := O8.ext e112
                have O9 := O9.ext e112
                have O10 := O10.ext e112
                have O11 := O11.ext e112
                have O12 := O12.ext e112
                have hB := ethen hB e112
                refine ⟨r108, rfl, ?_⟩
                refine bcase_mk (fun hc151 => ?_) (fun hc151 => ?_)
                · have H := (bcase_iff.1 H).1 hc151
                  obtain rfl := hr.trans H.symm
                  exact ⟨rfl, hB⟩
                · have H := (bcase_iff.1 H).2 hc151
                  refine bcase_mk (fun hc150 => ?_) (fun hc150 => ?_)
                  · have H := (bcase_iff.1 H).1 hc150
                    obtain rfl := hr.trans H.symm
                    exact ⟨rfl, hB⟩
                  · have H := (bcase_iff.1 H).2 hc150
                    obtain ⟨hp115, H⟩ := H
                    obtain ⟨r113, hr114⟩ : ∃ r_, r_ = M.laws_toInsS xs0 := ⟨_, rfl⟩
                    have H := H r113 hr114
                    refine (laws_toInsS.con hp115 hr114 (R0.ext hB) hc0).mono ?_
                    rintro _ w116 ⟨A118, c119, rfl, P13, e117⟩
                    have N2_13 := Own.apart2_new O2 P13 (Nat.le_refl _)
                    have N3_13 := Own.apart2_new O3 P13 (Nat.le_refl _)
                    have N4_13 := O4.dis_new P13 (Nat.le_refl _)
                    have N5_13 := Own.apart2_new O5 P13 (Nat.le_refl _)
                    have N13_6 := P13.apart_old O6.lt
                    have N7_13 := Own.apart2_new O7 P13 (Nat.le_refl _)
                    have N8_13 := Own.apart2_new O8 P13 (Nat.le_refl _)
                    have N9_13 := O9.dis_new P13 (Nat.le_refl _)
                    have N10_13 := Own.apart2_new O10 P13 (Nat.le_refl _)
                    have N13_11 := P13.apart_old O11.lt
                    have N12_13 := Own.apart2_new O12 P13 (Nat.le_refl _)
                    have O2 := O2.ext e117
                    have O3 := O3.ext e117
                    have O4 := O4.ext e117
                    have O5 := O5.ext e117
                    have O6 := O6.ext e117
                    have O7 := O7.ext e117
                    have O8 := O8.ext e117
                    have O9 := O9.ext e117
                    have O10 := O10.ext e117
                    have O11 := O11.ext e117
                    have O12 := O12.ext e117
                    have O13 := P13.mono hB.size
                    have hB := ethen hB e117
                    refine ⟨A118, r113.length, c119, rfl, ?_⟩
                    obtain ⟨hp122, H⟩ := H
                    obtain ⟨r120, hr121⟩ : ∃ r_, r_ = M.impl_BlockNew r113 x1 := ⟨_, rfl⟩
                    have H := H r120 hr121
                    refine (impl_BlockNew.con hp122 hr121 O13.row O13.le).mono ?_
                    rintro _ w123 ⟨A125, c126, A127, c128, F131, A129, c130, rfl, P14, P15, P16, N15_16, e124⟩
                    have N2_14 := Own.apart2_new O2 P14 (Nat.le_refl _)
                    have N3_14 := Own.apart2_new O3 P14 (Nat.le_refl _)
                    have N4_14 := O4.dis_new P14 (Nat.le_refl _)
                    have N5_14 := Own.apart2_new O5 P14 (Nat.le_refl _)
                    have N14_6 := P14.apart_old O6.lt
                    have N7_14 := Own.apart2_new O7 P14 (Nat.le_refl _)
                    have N8_14 := Own.apart2_new O8 P14 (Nat.le_refl _)
                    have N9_14 := O9.dis_new P14 (Nat.le_refl _)
                    have N10_14 := Own.apart2_new O10 P14 (Nat.le_refl _)
                    have N14_11 := P14.apart_old O11.lt
                    have N12_14 := Own.apart2_new O12 P14 (Nat.le_refl _)
                    have N13_14 := Own.apart2_new O13 P14 (Nat.le_refl _)
                    have N15_2 := P15.new_dis O2 (Nat.le_refl _)
                    have N15_3 := P15.new_dis O3 (Nat.le_refl _)
                    have N4_15 := O4.dis_neww P15 (Nat.le_refl _)
                    have N15_5 := P15.new_dis O5 (Nat.le_refl _)
                    have N15_6 := P15.new_disbox O6 (Nat.le_refl _)
                    have N15_7 := P15.new_dis O7 (Nat.le_refl _)
                    have N15_8 := P15.new_dis O8 (Nat.le_refl _)
                    have N9_15 := O9.dis_neww P15 (Nat.le_refl _)
                    have N15_10 := P15.new_dis O10 (Nat.le_refl _)
                    have N15_11 := P15.new_disbox O11 (Nat.le_refl _)
                    have N15_12 := P15.new_dis O12 (Nat.le_refl _)
                    have N15_13 := P15.new_dis O13 (Nat.le_refl _)
                    have N2_16 := Own.apart2_new O2 P16 (Nat.le_refl _)
                    have N3_16 := Own.apart2_new O3 P16 (Nat.le_refl _)
                    have N4_16 := O4.dis_new P16 (Nat.le_refl _)
                    have N5_16 := Own.apart2_new O5 P16 (Nat.le_refl _)
                    have N16_6 := P16.apart_old O6.lt
                    have N7_16 := Own.apart2_new O7 P16 (Nat.le_refl _)
                    have N8_16 := Own.apart2_new O8 P16 (Nat.le_refl _)
                    have N9_16 := O9.dis_new P16 (Nat.le_refl _)
                    have N10_16 := Own.apart2_new O10 P16 (Nat.le_refl _)
                    have N16_11 := P16.apart_old O11.lt
                    have N12_16 := Own.apart2_new O12 P16 (Nat.le_refl _)
                    have N13_16 := Own.apart2_new O13 P16 (Nat.le_refl _)
                    have O2 := O2.ext e124
                    have O3 := O3.ext e124
                    have O4 := O4.ext e124
                    have O5 := O5.ext e124
                    have O6 := O6.ext e124
                    have O7 := O7.ext e124
                    have O8 := O8.ext e124
                    have O9 := O9.ext e124
                    have O10 := O10.ext e124
                    have O11 := O11.ext e124
                    have O12 := O12.ext e124
                    have O13 := O13.ext e124
                    have O14 := P14.mono hB.size
                    have O15 := P15.mono hB.size
                    have O16 := P16.mono hB.size
                    have hB := ethen hB e124
                    refine ⟨(.agg #[(.slice A125 r120.1.Code.length c126), (.slice A127 r120.1.Warps.length c128), (.slice A129 r120.1.Memory.length c130), (.int .i64 r120.1.Waiting), (.int .i64 r120.1.Phase)]), ?_⟩
                    refine ⟨A125, r120.1.Code.length, c126, trivial, ?_⟩
                    refine ⟨A127, r120.1.Warps.length, c128, trivial, ?_⟩
                    refine ⟨A129, r120.1.Memory.length, c130, trivial, ?_⟩
                    refine ⟨r120.1.Waiting, trivial, ?_⟩
                    refine ⟨r120.1.Phase, trivial, ?_⟩
                    refine ⟨rfl, ?_⟩
                    refine ⟨(.bool r120.2), ?_⟩
                    refine ⟨r120.2, rfl, ?_⟩
                    refine ⟨rfl, ?_⟩
                    refine newBlk (fun g17_ w132 L17 P17 e133 => ?_)
                    have N2_17 := O2.apart_new L17
                    have N3_17 := O3.apart_new L17
                    have N4_17 := O4.dis_newbox L17
                    have N5_17 := O5.apart_new L17
                    have N6_17 := O6.ne L17
                    have N7_17 := O7.apart_new L17
                    have N8_17 := O8.apart_new L17
                    have N9_17 := O9.dis_newbox L17
                    have N10_17 := O10.apart_new L17
                    have N11_17 := O11.ne L17
                    have N12_17 := O12.apart_new L17
                    have N13_17 := O13.apart_new L17
                    have N14_17 := O14.apart_new L17
                    have N15_17 := O15.dis_newbox L17
                    have N16_17 := O16.apart_new L17
                    have O2 := O2.ext e133
                    have O3 := O3.ext e133
                    have O4 := O4.ext e133
                    have O5 := O5.ext e133
                    have O6 := O6.ext e133
                    have O7 := O7.ext e133
                    have O8 := O8.ext e133
                    have O9 := O9.ext e133
                    have O10 := O10.ext e133
                    have O11 := O11.ext e133
                    have O12 := O12.ext e133
                    have O13 := O13.ext e133
                    have O14 := O14.ext e133
                    have O15 := O15.ext e133
                    have O16 := O16.ext e133
                    have O17 := P17
                    have L17 := Nat.le_trans hB.size L17
                    have hB := ethen hB e133
                    refine stBlk O17 (o := 0) (cs' := #[(.slice A125 r120.1.Code.length c126), (.slice A127 r120.1.Warps.length c128), (.slice A129 r120.1.Memory.length c130), (.int .i64 r120.1.Waiting), (.int .i64 r120.1.Phase)]) rfl rfl (Nat.le_of_ble_eq_true rfl) rfl (fun w134 P17 e135 => ?_)
                    have O2_ := O2.chg e135 N2_17
                    have O3_ := O3.chg e135 N3_17
                    have O4_ := O4.chg e135 N4_17
                    have O5_ := O5.chg e135 N5_17
                    have O6_ := O6.chg e135 N6_17
                    have O7_ := O7.chg e135 N7_17
                    have O8_ := O8.chg e135 N8_17
                    have O9_ := O9.chg e135 N9_17
                    have O10_ := O10.chg e135 N10_17
                    have O11_ := O11.chg e135 N11_17
                    have O12_ := O12.chg e135 N12_17
                    have O13_ := O13.chg e135 N13_17
                    have O14_ := O14.chg e135 N14_17
                    have O15_ := O15.chg e135 N15_17
                    have O16_ := O16.chg e135 N16_17
                    have O2 := O2_
                    have O3 := O3_
                    have O4 := O4_
                    have O5 := O5_
                    have O6 := O6_
                    have O7 := O7_
                    have O8 := O8_
                    have O9 := O9_
                    have O10 := O10_
                    have O11 := O11_
                    have O12 := O12_
                    have O13 := O13_
                    have O14 := O14_
                    have O15 := O15_
                    have O16 := O16_
                    have hB := echg hB e135 L17
                    have O17 := P17
                    refine ⟨_, _, _, (O17.at 0 rfl rfl), ?_⟩
                    refine ⟨_, _, _, (O17.at 1 rfl rfl), ?_⟩
                    refine ⟨_, _, _, (O17.at 2 rfl rfl), ?_⟩
                    refine ⟨_, (O17.at 3 rfl rfl), ?_⟩
                    refine ⟨_, (O17.at 4 rfl rfl), ?_⟩
                    refine ⟨_, _, _, (O6.at 0 rfl rfl), ?_⟩
                    refine ⟨_, _, _, (O6.at 1 rfl rfl), ?_⟩
                    refine ⟨_, _, _, (O6.at 2 rfl rfl), ?_⟩
                    refine ⟨_, (O6.at 3 rfl rfl), ?_⟩
                    refine ⟨_, (O6.at 4 rfl rfl), ?_⟩
                    obtain ⟨hp138, H⟩ := H
                    obtain ⟨r136, hr137⟩ : ∃ r_, r_ = M.laws_eqBlock r120.1 r33.1 := ⟨_, rfl⟩
                    have H := H r136 hr137
                    refine (laws_eqBlock.con hp138 hr137 O14.row O14.le O15.row O15.le O16.row O16.le O3.row O3.le O4.row O4.le O5.row O5.le).mono ?_
                    rintro _ w139 ⟨rfl, e140⟩
                    have O2 := O2.ext e140
                    have O3 := O3.ext e140
                    have O4 := O4.ext e140
                    have O5 := O5.ext e140
                    have O6 := O6.ext e140
                    have O7 := O7.ext e140
                    have O8 := O8.ext e140
                    have O9 := O9.ext e140
                    have O10 := O10.ext e140
                    have O11 := O11.ext e140
                    have O12 := O12.ext e140
                    have O13 := O13.ext e140
                    have O14 := O14.ext e140
                    have O15 := O15.ext e140
                    have O16 := O16.ext e140
                    have O17 := O17.ext e140
                    have hB := ethen hB e140
                    refine ⟨r136, rfl, ?_⟩
                    refine bcase_mk (fun hc149 => ?_) (fun hc149 => ?_)
                    · have H := (bcase_iff.1 H).1 hc149
                      obtain rfl := hr.trans H.symm
                      exact ⟨rfl, hB⟩
                    · have H := (bcase_iff.1 H).2 hc149
                      refine bcase_mk (fun hc148 => ?_) (fun hc148 => ?_)
                      · have H := (bcase_iff.1 H).1 hc148
                        obtain rfl := hr.trans H.symm
                        exact ⟨rfl, hB⟩
                      · have H := (bcase_iff.1 H).2 hc148
                        refine ⟨_, _, _, (O11.at 0 rfl rfl), ?_⟩
                        refine ⟨_, _, _, (O11.at 1 rfl rfl), ?_⟩
                        refine ⟨_, _, _, (O11.at 2 rfl rfl), ?_⟩
                        refine ⟨_, (O11.at 3 rfl rfl), ?_⟩
                        refine ⟨_, (O11.at 4 rfl rfl), ?_⟩
                        obtain ⟨hp143, H⟩ := H
                        obtain ⟨r141, hr142⟩ : ∃ r_, r_ = M.laws_heldBlock (⟨r100.2.1, r100.2.2.1, r100.2.2.2, r56.1.Waiting, r56.1.Phase⟩ : D.Block) 1 := ⟨_, rfl⟩
                        have H := H r141 hr142
                        refine (cllArgs (by first | (simp only [List.length_set, hl105, hl106, hl107]; done) | (simp; done)) (laws_heldBlock.con hp143 hr142 O8.row O8.le O9.row O9.le O10.row O10.le)).mono ?_
                        rintro _ w144 ⟨rfl, e145⟩
                        have O2 := O2.ext e145
                        have O3 := O3.ext e145
                        have O4 := O4.ext e145
                        have O5 := O5.ext e145
                        have O6 := O6.ext e145
                        have O7 := O7.ext e145
                        have O8 := O8.ext e145
                        have O9 := O9.ext e145
                        have O10 := O10.ext e145
                        have O11 := O11.ext e145
                        have O12 := O12.ext e145
                        have O13 := O13.ext e145
                        have O14 := O14.ext e145
                        have O15 := O15.ext e145
                        have O16 := O16.ext e145
                        have O17 := O17.ext e145
                        have hB := ethen hB e145
                        refine ⟨r141, rfl, ?_⟩
                        refine bcase_mk (fun hc147 => ?_) (fun hc147 => ?_)
                        · have H := (bcase_iff.1 H).1 hc147
                          obtain rfl := hr.trans H.symm
                          exact ⟨rfl, hB⟩
                        · have H := (bcase_iff.1 H).2 hc147
                          refine bcase_mk (fun hc146 => ?_) (fun hc146 => ?_)
                          · have H := (bcase_iff.1 H).1 hc146
                            obtain rfl := hr.trans H.symm
                            exact ⟨rfl, hB⟩
                          · have H := (bcase_iff.1 H).2 hc146
                            obtain rfl := hr.trans H.symm
                            exact ⟨rfl, hB⟩

end Go.V
