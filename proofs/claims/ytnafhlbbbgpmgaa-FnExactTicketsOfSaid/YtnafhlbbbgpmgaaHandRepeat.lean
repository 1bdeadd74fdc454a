import Derived.Test.YtnafhlbbbgpmgaaCon10
import Derived.Test.YtnafhlbbbgpmgaaVCopy
set_option linter.unusedVariables false
set_option linter.unusedSimpArgs false
set_option maxRecDepth 100000
namespace Go.V
open Go.Proofs
def ones8 (k : Nat) : List Int := List.replicate k 1 ++ List.replicate (8 - k) 0
theorem szOf3 : szOf Try.prog 3 = 1 := by kernel_rfl
theorem rep_step {B g k : Nat} {wz : World} (hk : k = 1 ∨ k = 2 ∨ k = 4) (O : Own el3 wz B (some ⟨g, 0, none⟩) 8 (ones8 k)) {K : Int → World → Prop}
    (h : ∀ w1, Own el3 w1 B (some ⟨g, 0, none⟩) 8 (ones8 (k + k)) → ChgB g wz w1 → K (k : Int) w1) :
    Run Try.prog (Builtin.copy_ #[39, 39] 3 #[.slice (some ((⟨g, 0, none⟩ : Addr).add (k * el3.sz))) (8 - k) (8 - k), .slice (some ⟨g, 0, none⟩) k 8]) wz fun v w' => ∃ n : Int, v = .int .i64 n ∧ K n w' := by
  obtain ⟨inf, z, hi, hsz, _⟩ := slt39.info
  have hR : Row el3 wz (some ⟨g, 0, none⟩) (List.replicate k (1 : Int)) := by
    have := O.row.take k
    have e : (ones8 k).take k = List.replicate k (1 : Int) := by rcases hk with rfl | rfl | rfl <;> rfl
    rwa [e] at this
  have hl : (List.replicate k (1 : Int)).length = k := by simp
  have hc := copyOwn (ty := 3) (t2 := 39) (dLen := 8 - k) (dCap := 8 - k) (c2 := 8) (d := k) slt39.under hi hsz O rfl hR k (by rw [hl]; rcases hk with rfl | rfl | rfl <;> rfl) (by rcases hk with rfl | rfl | rfl <;> decide) (by rw [hl]; omega) (k := K) (fun w1 ho hch => h w1 (by
    have e : (ones8 k).take k ++ ((List.replicate k (1 : Int)).take k ++ (ones8 k).drop (k + k)) = ones8 (k + k) := by rcases hk with rfl | rfl | rfl <;> rfl
    rwa [e] at ho) hch)
  rw [hl] at hc
  exact hc
theorem slices_Repeat_int_int.con {xs0 : List Int} {A0 : Option Addr} {c0 : Nat} {x1 : Int} {r : List Int} {w : World} (hp : M.slices_Repeat_int_int_pre xs0 x1) (hr : r = M.slices_Repeat_int_int xs0 x1) (R0 : Row el3 w A0 xs0) (hc0 : xs0.length ≤ c0) :
    Cll Try.prog 124 #[(.slice A0 xs0.length c0), (.int .i64 x1)] w (fun v_ w_ => ∃ (A0_ : Option Addr) (c0_ : Nat), v_ = (.slice A0_ r.length c0_) ∧ Own el3 w_ w.heap.size A0_ c0_ r ∧ Ext w w_) := by
  obtain ⟨rfl, rfl⟩ := hp
  have hr8 : r = ones8 8 := hr
  subst hr8
  have hB := Ext.refl w
  refine slices_Repeat_int_int.start ?_
  unfold slices_Repeat_int_int.vc
  have a1 : IntKind.wrap .u64 ((([1] : List Int).length : Nat) : Int) = 1 := by decide +kernel
  have a2 : IntKind.wrap .u64 8 = 8 := by decide +kernel
  refine bcase_f rfl ?_
  rw [a1, a2]
  refine (math_bits_Mul.con (x0 := 1) (x1 := 8) ⟨rfl, rfl⟩ rfl).mono ?_
  rintro _ w1 ⟨rfl, e1⟩
  have R1 := R0.ext e1
  have hB := ethen hB e1
  refine ⟨_, ⟨0, rfl, _, ⟨8, rfl, rfl, ?_⟩⟩⟩
  refine bcase_f rfl (bcase_f rfl ?_)
  have a3 : IntKind.wrap .i64 8 = 8 := by decide +kernel
  rw [a3]
  refine makeOwn slt39 (l := 8) (by omega) (by omega) fun g w2 P e2 => ?_
  have hB0 := hB.size
  have R2 := R1.ext e2
  have hB := ethen hB e2
  obtain ⟨inf, z, hi, hsz, _⟩ := slt39.info
  have O0 := P.mono hB0
  refine copyOwn (d := 0) (xs := List.replicate (8 : Int).toNat (default : Int)) (ys := [1]) slt39.under hi hsz O0 rfl R2 1 rfl (by decide) (by decide) fun w3 O1 ch => ?_
  have O1 : Own el3 w3 w.heap.size (some ⟨g, 0, none⟩) 8 (ones8 1) := O1
  have hg : w.heap.size ≤ g := O0.base _ rfl
  have hB := echg hB ch hg
  refine ⟨fun m z w_ => ∃ k : Nat, z = ((k : Int), ()) ∧ m = 8 - k ∧ (k = 1 ∨ k = 2 ∨ k = 4 ∨ k = 8) ∧ Own el3 w_ w.heap.size (some ⟨g, 0, none⟩) 8 (ones8 k) ∧ Ext w w_, ⟨7, 1, rfl, rfl, .inl rfl, O1, hB⟩, ?_⟩
  rintro m z wz ⟨k, rfl, rfl, hk, O, hB⟩
  by_cases h8 : k = 8
  · subst h8
    refine bcase_f rfl ?_
    exact ⟨some ⟨g, 0, none⟩, 8, rfl, O, hB⟩
  · have hk' : k = 1 ∨ k = 2 ∨ k = 4 := by omega
    refine bcase_t (by rcases hk' with rfl | rfl | rfl <;> rfl) ?_
    refine ⟨by omega, by show ((k : Nat) : Int) ≤ 8; omega, by omega, by show ((k : Nat) : Int) ≤ 8; omega, ?_, trivial⟩
    have hs := rep_step (B := w.heap.size) (g := g) (k := k) (wz := wz.drew) hk' (O.ext (Ext.drew wz)) (K := fun n w' => ∃ m', m' < 8 - k ∧ ∃ k' : Nat, ((IntKind.wrap .i64 ((k : Int) + n), ()) : Int × Unit) = ((k' : Int), ()) ∧ m' = 8 - k' ∧ (k' = 1 ∨ k' = 2 ∨ k' = 4 ∨ k' = 8) ∧ Own el3 w' w.heap.size (some ⟨g, 0, none⟩) 8 (ones8 k') ∧ Ext w w')
      (fun w1 O1 ch1 => ⟨8 - (k + k), by omega, k + k, by rw [w64 (by omega) (by omega)]; push_cast; rfl, rfl, by omega, O1, echg (ethen hB (Ext.drew wz)) ch1 hg⟩)
    rw [szOf3]
    rcases hk' with rfl | rfl | rfl <;> exact hs
end Go.V
