/-
  The law FnExactFirstRace holds: for every input the law's function returns true, and the arguments read as they did.
  Conditions: none.
-/
import Derived.Test.YtkpfabigipedcaaRows
import Derived.Test.YtkpfabigipedcaaVRead
import Derived.Test.YtkpfabigipedcaaFrCon1
namespace Go.Proofs.Ytkpfabigipedcaa
open Go.V Go.ChangeShapes Go.WideShapes Go.ChangeAt Go.RowKit
set_option linter.unusedVariables false
set_option linter.unusedSimpArgs false
set_option maxRecDepth 100000

theorem own : ownKnob Try.prog.godebug = none := by kernel_rfl
theorem laidOut : laidOutB Try.prog = true := by kernel_rfl
theorem dec3 {H : Type} {enc : TypeId × Value → H} {w : World} {base : Nat} {spare : Nat → Bool} {held : Bool} : Dec H enc Try.prog w base spare held 3 (fun cs (a : Int) => cs = [.int .i64 a] ∧ In64 a) := dec_int (by kernel_rfl)
theorem dec47 {H : Type} {enc : TypeId × Value → H} {w : World} {base : Nat} {spare : Nat → Bool} {held : Bool} : Dec H enc Try.prog w base spare held 47 (fun cs (a : D.Access) => cs = el47.enc a ∧ (In64 a.Phase ∧ In64 a.Warp ∧ In64 a.Address ∧ In64 a.Kind)) := by
  intro n cs x h
  obtain ⟨hl, hf⟩ := dec_struct (l := [(3, 0), (3, 1), (3, 2), (3, 3)]) (by kernel_rfl) h
  rw [show Try.prog.cellsOf 47 = 4 from by kernel_rfl] at hl
  match cs, hl with
  | [c0, c1, c2, c3], _ =>
    obtain ⟨m0, y0, h0⟩ := hf 0 3 0 rfl
    rw [show Try.prog.cellsOf 3 = 1 from by kernel_rfl] at h0
    obtain ⟨a0, e0, b0⟩ := dec3 _ _ _ h0
    simp at e0
    subst e0
    obtain ⟨m1, y1, h1⟩ := hf 1 3 1 rfl
    rw [show Try.prog.cellsOf 3 = 1 from by kernel_rfl] at h1
    obtain ⟨a1, e1, b1⟩ := dec3 _ _ _ h1
    simp at e1
    subst e1
    obtain ⟨m2, y2, h2⟩ := hf 2 3 2 rfl
    rw [show Try.prog.cellsOf 3 = 1 from by kernel_rfl] at h2
    obtain ⟨a2, e2, b2⟩ := dec3 _ _ _ h2
    simp at e2
    subst e2
    obtain ⟨m3, y3, h3⟩ := hf 3 3 3 rfl
    rw [show Try.prog.cellsOf 3 = 1 from by kernel_rfl] at h3
    obtain ⟨a3, e3, b3⟩ := dec3 _ _ _ h3
    simp at e3
    subst e3
    exact ⟨⟨a0, a1, a2, a3⟩, rfl, b0, b1, b2, b3⟩
theorem dec22 {H : Type} {enc : TypeId × Value → H} {w : World} {base : Nat} {spare : Nat → Bool} {held : Bool} : Dec H enc Try.prog w base spare held 22 (fun cs (a : List D.Access) => ∃ A c, cs = [.slice A a.length c] ∧ a.length ≤ c ∧ c ≤ maxLen ∧ Row el47 w A a ∧ ∀ y ∈ a, (In64 y.Phase ∧ In64 y.Warp ∧ In64 y.Address ∧ In64 y.Kind)) :=
  dec_row (E := el47) (Q := fun y => (In64 y.Phase ∧ In64 y.Warp ∧ In64 y.Address ∧ In64 y.Kind)) (by kernel_rfl) (by kernel_rfl) dec47

theorem lifted (os : Os) (started : os.Started) (H : Type) (enc : TypeId × Value → H) :
    ReturnsInHanded {} Try.checked os 4 .any (Rows.fnExactFirstRaceSpec.pre6 enc Try.prog Try.f4 Rows.fnExactFirstRaceRow.domain false) (Rows.fnExactFirstRaceSpec.post enc Try.prog Try.f4 false true false false) := by
  refine returnsInHanded_of_change (C := Try.checked) own started (by kernel_rfl) Try.func4
    (ChangeSpec.witness6 (enc := enc) (C := Try.checked) false ⟨#[], #[.slice none 0 0], []⟩ 8 (by kernel_rfl) (by kernel_rfl) (by kernel_rfl) (by kernel_rfl)) ?_
  intro W base args ds gs before hval0 hW hcnd _
  have hval : ∀ (j : Nat) t v, Try.f4.params[j]? = some t → args[j]? = some v → Value.okWide Try.prog W .any base t v := hval0
  have hW' := hW
  obtain ⟨p, q, hA0, hV, rfl, hfz, hnd⟩ := hW
  have hA : DataW.TrodAll enc Try.prog W 0 (fun _ => true) true Try.f4.params.toList args.toList ds p := hA0
  rw [Try.params4] at hA hval
  obtain ⟨v0, vs0, d0, ds0, p0, q0, hargs, rfl, rfl, h0, r0⟩ := trodAll_cons hA
  obtain ⟨rfl, rfl, rfl⟩ := trodAll_nil r0
  obtain rfl : args = #[v0] := by cases args; simp_all
  obtain ⟨rfl, rfl⟩ := trodVars_none hV
  have k0 := h0
  have lt0 : ∀ x ∈ p0, x.block < W.heap.size := by obtain ⟨m, hm⟩ := k0; exact DataW.trod_lt m _ _ _ hm
  obtain ⟨fu0, hf0⟩ := h0
  obtain ⟨a0, l0, c0, rfl⟩ := okWide_slice (show Try.prog.underlying 22 = some (.slice 47) from by kernel_rfl) (hval 0 22 v0 rfl rfl)
  obtain ⟨x0, A0, cc0, e0, hc0, hm0, R0, b0⟩ := dec22 _ _ _ hf0
  simp only [Value.cells, List.cons.injEq, Value.slice.injEq, and_true] at e0
  obtain ⟨rfl, rfl, rfl⟩ := e0
  have hn0 : x0.length ≤ 9223372036854775807 := Nat.le_trans hc0 hm0
  clear hA0 hval0
  refine (laws_FnExactFirstRace.con (r := true) ((show M.laws_FnExactFirstRace_pre x0 from hn0)) rfl R0 hc0).calls.mono fun e W' ⟨v, he, hv, bel⟩ => ?_
  subst he
  subst hv
  exact ⟨_, rfl, _, _, _, [], _, [], hW', trodAll_mk1 (shut_bool (show Try.prog.underlying 4 = some .bool from by kernel_rfl) _), (trodAll_cons_mk (Below.trod laidOut (by kernel_rfl) (of_decide_eq_true (by kernel_rfl)) k0 bel lt0) trodAll_mk0), rfl, bel.frame _, fun h => by cases h⟩

theorem band {a b : Bool} (h : a = true) (k : b = true) : (a && b) = true := by rw [h, k]; rfl
theorem j9 : (Rows.fnExactFirstRaceRow.inPlace == Try.pinned.checked.prog.inPlace 4) = true := by kernel_rfl
theorem j10 : (Rows.fnExactFirstRaceRow.unfollowed == Try.pinned.checked.prog.unfollowed 4) = true := by kernel_rfl
theorem j11 : (Rows.fnExactFirstRaceRow.recurses == Try.pinned.checked.prog.recurses 4) = true := by kernel_rfl
theorem j12 : (Rows.fnExactFirstRaceRow.named == Try.pinned.checked.prog.varsNamed 4) = true := by kernel_rfl
theorem closed : joinedFacts Try.pinned.checked.prog 4 Try.f4 Rows.fnExactFirstRaceSpec Rows.fnExactFirstRaceRow = true := by
  unfold joinedFacts
  exact (band (band (band (band (band (band (band (band (band (band (band (band (band (band (band (band (band (band (band (band (band (band (band (band (band (band (band (band (band (band (band (by kernel_rfl) laidOut) (by kernel_rfl)) (by kernel_rfl)) (by kernel_rfl)) (by kernel_rfl)) (by kernel_rfl)) (by kernel_rfl)) (by kernel_rfl)) j9) j10) j11) j12) (by kernel_rfl)) (by kernel_rfl)) (by kernel_rfl)) (by kernel_rfl)) (by kernel_rfl)) (by kernel_rfl)) (by kernel_rfl)) (by kernel_rfl)) (by kernel_rfl)) (by kernel_rfl)) (by kernel_rfl)) (by kernel_rfl)) (by kernel_rfl)) (by kernel_rfl)) (by kernel_rfl)) (by kernel_rfl)) (by kernel_rfl)) (by kernel_rfl)) (by kernel_rfl))

theorem over : Rows.fnExactFirstRaceRow.holds Try.pinned (OpenSpec.ofChange Rows.fnExactFirstRaceSpec) :=
  OpenClaim.holds_of_wide 4 Try.f4 rfl rfl rfl rfl rfl rfl rfl ⟨rfl, rfl, rfl, rfl, rfl⟩ rfl rfl rfl rfl rfl (by kernel_rfl) Try.func4 closed
    (of_decide_eq_true (by kernel_rfl)) (by unfold Func.isWrapper; first | (rw [if_pos (by decide +kernel)]; kernel_rfl) | (rw [if_neg (by decide +kernel)]; exact ⟨rfl, rfl⟩))
    (fun os started H enc _ => lifted os started H enc)

/-- the statement -/
theorem fnExactFirstRace_holds : Rows.FnExactFirstRaceSaid := over
#print axioms fnExactFirstRace_holds
end Go.Proofs.Ytkpfabigipedcaa
