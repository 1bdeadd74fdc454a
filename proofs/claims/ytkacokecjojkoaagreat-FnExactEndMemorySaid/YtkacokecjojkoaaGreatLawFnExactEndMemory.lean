/-
  The law FnExactEndMemory holds: for every input the law's function returns true, and the arguments read as they did.
  Conditions: none.
-/
import Derived.Test.YtkacokecjojkoaaGreatRows
import Derived.Test.YtkacokecjojkoaaGreatKEVRead
import Derived.Test.YtkacokecjojkoaaGreatKECon3
namespace Go.Proofs.YtkacokecjojkoaaGreat
open Go.V Go.ChangeShapes Go.WideShapes Go.ChangeAt Go.RowKit
set_option linter.unusedVariables false
set_option linter.unusedSimpArgs false
set_option maxRecDepth 100000

theorem own : ownKnob Tryz.prog.godebug = none := by kernel_rfl
theorem laidOut : laidOutB Tryz.prog = true := by kernel_rfl
theorem dec3 {H : Type} {enc : TypeId × Value → H} {w : World} {base : Nat} {spare : Nat → Bool} {held : Bool} : Dec H enc Tryz.prog w base spare held 3 (fun cs (a : Int) => cs = [.int .i64 a] ∧ In64 a) := dec_int (by kernel_rfl)
theorem dec91 {H : Type} {enc : TypeId × Value → H} {w : World} {base : Nat} {spare : Nat → Bool} {held : Bool} : Dec H enc Tryz.prog w base spare held 91 (fun cs (a : D.Ins) => cs = el91.enc a ∧ (In64 a.Op ∧ In64 a.A ∧ In64 a.B ∧ In64 a.C)) := by
  intro n cs x h
  obtain ⟨hl, hf⟩ := dec_struct (l := [(3, 0), (3, 1), (3, 2), (3, 3)]) (by kernel_rfl) h
  rw [show Tryz.prog.cellsOf 91 = 4 from by kernel_rfl] at hl
  match cs, hl with
  | [c0, c1, c2, c3], _ =>
    obtain ⟨m0, y0, h0⟩ := hf 0 3 0 rfl
    rw [show Tryz.prog.cellsOf 3 = 1 from by kernel_rfl] at h0
    obtain ⟨a0, e0, b0⟩ := dec3 _ _ _ h0
    simp at e0
    subst e0
    obtain ⟨m1, y1, h1⟩ := hf 1 3 1 rfl
    rw [show Tryz.prog.cellsOf 3 = 1 from by kernel_rfl] at h1
    obtain ⟨a1, e1, b1⟩ := dec3 _ _ _ h1
    simp at e1
    subst e1
    obtain ⟨m2, y2, h2⟩ := hf 2 3 2 rfl
    rw [show Tryz.prog.cellsOf 3 = 1 from by kernel_rfl] at h2
    obtain ⟨a2, e2, b2⟩ := dec3 _ _ _ h2
    simp at e2
    subst e2
    obtain ⟨m3, y3, h3⟩ := hf 3 3 3 rfl
    rw [show Tryz.prog.cellsOf 3 = 1 from by kernel_rfl] at h3
    obtain ⟨a3, e3, b3⟩ := dec3 _ _ _ h3
    simp at e3
    subst e3
    exact ⟨⟨a0, a1, a2, a3⟩, rfl, b0, b1, b2, b3⟩
theorem dec22 {H : Type} {enc : TypeId × Value → H} {w : World} {base : Nat} {spare : Nat → Bool} {held : Bool} : Dec H enc Tryz.prog w base spare held 22 (fun cs (a : List D.Ins) => ∃ A c, cs = [.slice A a.length c] ∧ a.length ≤ c ∧ c ≤ maxLen ∧ Row el91 w A a ∧ ∀ y ∈ a, (In64 y.Op ∧ In64 y.A ∧ In64 y.B ∧ In64 y.C)) :=
  dec_row (E := el91) (Q := fun y => (In64 y.Op ∧ In64 y.A ∧ In64 y.B ∧ In64 y.C)) (by kernel_rfl) (by kernel_rfl) dec91

theorem lifted (os : Os) (started : os.Started) (H : Type) (enc : TypeId × Value → H) :
    ReturnsInHanded {} Tryz.checked os 13 .any (Rows.fnExactEndMemorySpec.pre6 enc Tryz.prog Tryz.f13 Rows.fnExactEndMemoryRow.domain false) (Rows.fnExactEndMemorySpec.post enc Tryz.prog Tryz.f13 false true false false) := by
  refine returnsInHanded_of_change (C := Tryz.checked) own started (by kernel_rfl) Tryz.func13
    (ChangeSpec.witness6 (enc := enc) (C := Tryz.checked) false ⟨#[], #[.slice none 0 0, .int .i64 0, .int .i64 0], []⟩ 8 (by kernel_rfl) (by kernel_rfl) (by kernel_rfl) (by kernel_rfl)) ?_
  intro W base args ds gs before hval0 hW hcnd _
  have hval : ∀ (j : Nat) t v, Tryz.f13.params[j]? = some t → args[j]? = some v → Value.okWide Tryz.prog W .any base t v := hval0
  have hW' := hW
  obtain ⟨p, q, hA0, hV, rfl, hfz, hnd⟩ := hW
  have hA : DataW.TrodAll enc Tryz.prog W 0 (fun _ => true) true Tryz.f13.params.toList args.toList ds p := hA0
  rw [Tryz.params13] at hA hval
  obtain ⟨v0, vs0, d0, ds0, p0, q0, hargs, rfl, rfl, h0, r0⟩ := trodAll_cons hA
  obtain ⟨v1, vs1, d1, ds1, p1, q1, rfl, rfl, rfl, h1, r1⟩ := trodAll_cons r0
  obtain ⟨v2, vs2, d2, ds2, p2, q2, rfl, rfl, rfl, h2, r2⟩ := trodAll_cons r1
  obtain ⟨rfl, rfl, rfl⟩ := trodAll_nil r2
  obtain rfl : args = #[v0, v1, v2] := by cases args; simp_all
  obtain ⟨rfl, rfl⟩ := trodVars_none hV
  have k0 := h0
  have lt0 : ∀ x ∈ p0, x.block < W.heap.size := by obtain ⟨m, hm⟩ := k0; exact DataW.trod_lt m _ _ _ hm
  obtain ⟨fu0, hf0⟩ := h0
  obtain ⟨a0, l0, c0, rfl⟩ := okWide_slice (show Tryz.prog.underlying 22 = some (.slice 91) from by kernel_rfl) (hval 0 22 v0 rfl rfl)
  obtain ⟨x0, A0, cc0, e0, hc0, hm0, R0, b0⟩ := dec22 _ _ _ hf0
  simp only [Value.cells, List.cons.injEq, Value.slice.injEq, and_true] at e0
  obtain ⟨rfl, rfl, rfl⟩ := e0
  have hn0 : x0.length ≤ 9223372036854775807 := Nat.le_trans hc0 hm0
  have k1 := h1
  have lt1 : ∀ x ∈ p1, x.block < W.heap.size := by obtain ⟨m, hm⟩ := k1; exact DataW.trod_lt m _ _ _ hm
  obtain ⟨fu1, hf1⟩ := h1
  obtain ⟨x1, rfl, rfl, rfl, wx1⟩ := open_int (show Tryz.prog.underlying 3 = some (.int .i64) from by kernel_rfl) (hval 1 3 v1 rfl rfl) k1
  have b1 := in64_of wx1
  have k2 := h2
  have lt2 : ∀ x ∈ p2, x.block < W.heap.size := by obtain ⟨m, hm⟩ := k2; exact DataW.trod_lt m _ _ _ hm
  obtain ⟨fu2, hf2⟩ := h2
  obtain ⟨x2, rfl, rfl, rfl, wx2⟩ := open_int (show Tryz.prog.underlying 3 = some (.int .i64) from by kernel_rfl) (hval 2 3 v2 rfl rfl) k2
  have b2 := in64_of wx2
  clear hA0 hval0
  refine (laws_FnExactEndMemory.con (r := true) ((show M.laws_FnExactEndMemory_pre x0 x1 x2 from hn0)) rfl R0 hc0).calls.mono fun e W' ⟨v, he, hv, bel⟩ => ?_
  subst he
  subst hv
  exact ⟨_, rfl, _, _, _, [], _, [], hW', trodAll_mk1 (shut_bool (show Tryz.prog.underlying 4 = some .bool from by kernel_rfl) _), (trodAll_cons_mk (Below.trod laidOut (by kernel_rfl) (of_decide_eq_true (by kernel_rfl)) k0 bel lt0) (trodAll_cons_mk (Below.trod laidOut (by kernel_rfl) (of_decide_eq_true (by kernel_rfl)) k1 bel lt1) (trodAll_cons_mk (Below.trod laidOut (by kernel_rfl) (of_decide_eq_true (by kernel_rfl)) k2 bel lt2) trodAll_mk0))), rfl, bel.frame _, fun h => by cases h⟩

theorem band {a b : Bool} (h : a = true) (k : b = true) : (a && b) = true := by rw [h, k]; rfl
theorem j9 : (Rows.fnExactEndMemoryRow.inPlace == Tryz.pinned.checked.prog.inPlace 13) = true := by kernel_rfl
theorem j10 : (Rows.fnExactEndMemoryRow.unfollowed == Tryz.pinned.checked.prog.unfollowed 13) = true := by kernel_rfl
theorem j11 : (Rows.fnExactEndMemoryRow.recurses == Tryz.pinned.checked.prog.recurses 13) = true := by kernel_rfl
theorem j12 : (Rows.fnExactEndMemoryRow.named == Tryz.pinned.checked.prog.varsNamed 13) = true := by kernel_rfl
theorem closed : joinedFacts Tryz.pinned.checked.prog 13 Tryz.f13 Rows.fnExactEndMemorySpec Rows.fnExactEndMemoryRow = true := by
  unfold joinedFacts
  exact (band (band (band (band (band (band (band (band (band (band (band (band (band (band (band (band (band (band (band (band (band (band (band (band (band (band (band (band (band (band (band (by kernel_rfl) laidOut) (by kernel_rfl)) (by kernel_rfl)) (by kernel_rfl)) (by kernel_rfl)) (by kernel_rfl)) (by kernel_rfl)) (by kernel_rfl)) j9) j10) j11) j12) (by kernel_rfl)) (by kernel_rfl)) (by kernel_rfl)) (by kernel_rfl)) (by kernel_rfl)) (by kernel_rfl)) (by kernel_rfl)) (by kernel_rfl)) (by kernel_rfl)) (by kernel_rfl)) (by kernel_rfl)) (by kernel_rfl)) (by kernel_rfl)) (by kernel_rfl)) (by kernel_rfl)) (by kernel_rfl)) (by kernel_rfl)) (by kernel_rfl)) (by kernel_rfl))

theorem over : Rows.fnExactEndMemoryRow.holds Tryz.pinned (OpenSpec.ofChange Rows.fnExactEndMemorySpec) :=
  OpenClaim.holds_of_wide 13 Tryz.f13 rfl rfl rfl rfl rfl rfl rfl ⟨rfl, rfl, rfl, rfl, rfl⟩ rfl rfl rfl rfl rfl (by kernel_rfl) Tryz.func13 closed
    (of_decide_eq_true (by kernel_rfl)) (by unfold Func.isWrapper; first | (rw [if_pos (by decide +kernel)]; kernel_rfl) | (rw [if_neg (by decide +kernel)]; exact ⟨rfl, rfl⟩))
    (fun os started H enc _ => lifted os started H enc)

/-- the statement -/
theorem fnExactEndMemory_holds : Rows.FnExactEndMemorySaid := over
#print axioms fnExactEndMemory_holds
end Go.Proofs.YtkacokecjojkoaaGreat
