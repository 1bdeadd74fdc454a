/-
  The law FnExactAddAccesses holds: for every input the law's function returns true, and the arguments read as they did.
  Conditions: none.
-/
import Derived.Test.YtkpfabigipedcaaRows
import Derived.Test.YtkpfabigipedcaaVRead
import Derived.Test.YtkpfabigipedcaaAdCon1
namespace Go.Proofs.Ytkpfabigipedcaa
open Go.V Go.ChangeShapes Go.WideShapes Go.ChangeAt Go.RowKit
set_option linter.unusedVariables false
set_option linter.unusedSimpArgs false
set_option maxRecDepth 100000

theorem own : ownKnob Try.prog.godebug = none := by kernel_rfl
theorem laidOut : laidOutB Try.prog = true := by kernel_rfl
theorem dec3 {H : Type} {enc : TypeId × Value → H} {w : World} {base : Nat} {spare : Nat → Bool} {held : Bool} : Dec H enc Try.prog w base spare held 3 (fun cs (a : Int) => cs = [.int .i64 a] ∧ In64 a) := dec_int (by kernel_rfl)
theorem dec47 {H : Type} {enc : TypeId × Value → H} {w : World} {base : Nat} {spare : Nat → Bool} {held : Bool} : Dec H enc Try.prog w base spare held 47 (fun cs (a : D.Access) => cs = el47.enc a ∧ (In64 a.Phase ∧ In64 a.Warp ∧ In64 a.Address ∧ In64 a.Kind)) := by
  intro n cs x h
  obtain ⟨hl, hf⟩ := dec_struct (l := [(3, 0), (3, 1), (3, 2), (3, 3)]) (by kernel_rfl) h
  rw [show Try.prog.cellsOf 47 = 4 from by kernel_rfl] at hl
  match cs, hl with
  | [c0, c1, c2, c3], _ =>
    obtain ⟨m0, y0, h0⟩ := hf 0 3 0 rfl
    rw [show Try.prog.cellsOf 3 = 1 from by kernel_rfl] at h0
    obtain ⟨a0, e0, b0⟩ := dec3 _ _ _ h0
    simp at e0
    subst e0
    obtain ⟨m1, y1, h1⟩ := hf 1 3 1 rfl
    rw [show Try.prog.cellsOf 3 = 1 from by kernel_rfl] at h1
    obtain ⟨a1, e1, b1⟩ := dec3 _ _ _ h1
    simp at e1
    subst e1
    obtain ⟨m2, y2, h2⟩ := hf 2 3 2 rfl
    rw [show Try.prog.cellsOf 3 = 1 from by kernel_rfl] at h2
    obtain ⟨a2, e2, b2⟩ := dec3 _ _ _ h2
    simp at e2
    subst e2
    obtain ⟨m3, y3, h3⟩ := hf 3 3 3 rfl
    rw [show Try.prog.cellsOf 3 = 1 from by kernel_rfl] at h3
    obtain ⟨a3, e3, b3⟩ := dec3 _ _ _ h3
    simp at e3
    subst e3
    exact ⟨⟨a0, a1, a2, a3⟩, rfl, b0, b1, b2, b3⟩
theorem dec22 {H : Type} {enc : TypeId × Value → H} {w : World} {base : Nat} {spare : Nat → Bool} {held : Bool} : Dec H enc Try.prog w base spare held 22 (fun cs (a : List D.Access) => ∃ A c, cs = [.slice A a.length c] ∧ a.length ≤ c ∧ c ≤ maxLen ∧ Row el47 w A a ∧ ∀ y ∈ a, (In64 y.Phase ∧ In64 y.Warp ∧ In64 y.Address ∧ In64 y.Kind)) :=
  dec_row (E := el47) (Q := fun y => (In64 y.Phase ∧ In64 y.Warp ∧ In64 y.Address ∧ In64 y.Kind)) (by kernel_rfl) (by kernel_rfl) dec47

theorem lifted (os : Os) (started : os.Started) (H : Type) (enc : TypeId × Value → H) :
    ReturnsInHanded {} Try.checked os 3 .any (Rows.fnExactAddAccessesSpec.pre6 enc Try.prog Try.f3 Rows.fnExactAddAccessesRow.domain false) (Rows.fnExactAddAccessesSpec.post enc Try.prog Try.f3 false true false false) := by
  refine returnsInHanded_of_change (C := Try.checked) own started (by kernel_rfl) Try.func3
    (ChangeSpec.witness6 (enc := enc) (C := Try.checked) false ⟨#[], #[.slice none 0 0, .slice none 0 0], []⟩ 8 (by kernel_rfl) (by kernel_rfl) (by kernel_rfl) (by kernel_rfl)) ?_
  intro W base args ds gs before hval0 hW hcnd _
  have hval : ∀ (j : Nat) t v, Try.f3.params[j]? = some t → args[j]? = some v → Value.okWide Try.prog W .any base t v := hval0
  have hW' := hW
  obtain ⟨p, q, hA0, hV, rfl, hfz, hnd⟩ := hW
  have hA : DataW.TrodAll enc Try.prog W 0 (fun _ => true) true Try.f3.params.toList args.toList ds p := hA0
  rw [Try.params3] at hA hval
  obtain ⟨v0, vs0, d0, ds0, p0, q0, hargs, rfl, rfl, h0, r0⟩ := trodAll_cons hA
  obtain ⟨v1, vs1, d1, ds1, p1, q1, rfl, rfl, rfl, h1, r1⟩ := trodAll_cons r0
  obtain ⟨rfl, rfl, rfl⟩ := trodAll_nil r1
  obtain rfl : args = #[v0, v1] := by cases args; simp_all
  obtain ⟨rfl, rfl⟩ := trodVars_none hV
  have k0 := h0
  have lt0 : ∀ x ∈ p0, x.block < W.heap.size := by obtain ⟨m, hm⟩ := k0; exact DataW.trod_lt m _ _ _ hm
  obtain ⟨fu0, hf0⟩ := h0
  obtain ⟨a0, l0, c0, rfl⟩ := okWide_slice (show Try.prog.underlying 22 = some (.slice 47) from by kernel_rfl) (hval 0 22 v0 rfl rfl)
  obtain ⟨x0, A0, cc0, e0, hc0, hm0, R0, b0⟩ := dec22 _ _ _ hf0
  simp only [Value.cells, List.cons.injEq, Value.slice.injEq, and_true] at e0
  obtain ⟨rfl, rfl, rfl⟩ := e0
  have hn0 : x0.length ≤ 9223372036854775807 := Nat.le_trans hc0 hm0
  have k1 := h1
  have lt1 : ∀ x ∈ p1, x.block < W.heap.size := by obtain ⟨m, hm⟩ := k1; exact DataW.trod_lt m _ _ _ hm
  obtain ⟨fu1, hf1⟩ := h1
  obtain ⟨a1, l1, c1, rfl⟩ := okWide_slice (show Try.prog.underlying 22 = some (.slice 47) from by kernel_rfl) (hval 1 22 v1 rfl rfl)
  obtain ⟨x1, A1, cc1, e1, hc1, hm1, R1, b1⟩ := dec22 _ _ _ hf1
  simp only [Value.cells, List.cons.injEq, Value.slice.injEq, and_true] at e1
  obtain ⟨rfl, rfl, rfl⟩ := e1
  have hn1 : x1.length ≤ 9223372036854775807 := Nat.le_trans hc1 hm1
  clear hA0 hval0
  refine (laws_FnExactAddAccesses.con (r := true) ((show M.laws_FnExactAddAccesses_pre x0 x1 from ⟨hn0, hn1⟩)) rfl R0 hc0 R1 hc1).calls.mono fun e W' ⟨v, he, hv, bel⟩ => ?_
  subst he
  subst hv
  exact ⟨_, rfl, _, _, _, [], _, [], hW', trodAll_mk1 (shut_bool (show Try.prog.underlying 4 = some .bool from by kernel_rfl) _), (trodAll_cons_mk (Below.trod laidOut (by kernel_rfl) (of_decide_eq_true (by kernel_rfl)) k0 bel lt0) (trodAll_cons_mk (Below.trod laidOut (by kernel_rfl) (of_decide_eq_true (by kernel_rfl)) k1 bel lt1) trodAll_mk0)), rfl, bel.frame _, fun h => by cases h⟩

theorem band {a b : Bool} (h : a = true) (k : b = true) : (a && b) = true := by rw [h, k]; rfl
theorem j9 : (Rows.fnExactAddAccessesRow.inPlace == Try.pinned.checked.prog.inPlace 3) = true := by kernel_rfl
theorem j10 : (Rows.fnExactAddAccessesRow.unfollowed == Try.pinned.checked.prog.unfollowed 3) = true := by kernel_rfl
theorem j11 : (Rows.fnExactAddAccessesRow.recurses == Try.pinned.checked.prog.recurses 3) = true := by kernel_rfl
theorem j12 : (Rows.fnExactAddAccessesRow.named == Try.pinned.checked.prog.varsNamed 3) = true := by kernel_rfl
theorem closed : joinedFacts Try.pinned.checked.prog 3 Try.f3 Rows.fnExactAddAccessesSpec Rows.fnExactAddAccessesRow = true := by
  unfold joinedFacts
  exact (band (band (band (band (band (band (band (band (band (band (band (band (band (band (band (band (band (band (band (band (band (band (band (band (band (band (band (band (band (band (band (by kernel_rfl) laidOut) (by kernel_rfl)) (by kernel_rfl)) (by kernel_rfl)) (by kernel_rfl)) (by kernel_rfl)) (by kernel_rfl)) (by kernel_rfl)) j9) j10) j11) j12) (by kernel_rfl)) (by kernel_rfl)) (by kernel_rfl)) (by kernel_rfl)) (by kernel_rfl)) (by kernel_rfl)) (by kernel_rfl)) (by kernel_rfl)) (by kernel_rfl)) (by kernel_rfl)) (by kernel_rfl)) (by kernel_rfl)) (by kernel_rfl)) (by kernel_rfl)) (by kernel_rfl)) (by kernel_rfl)) (by kernel_rfl)) (by kernel_rfl)) (by kernel_rfl))

theorem over : Rows.fnExactAddAccessesRow.holds Try.pinned (OpenSpec.ofChange Rows.fnExactAddAccessesSpec) :=
  OpenClaim.holds_of_wide 3 Try.f3 rfl rfl rfl rfl rfl rfl rfl ⟨rfl, rfl, rfl, rfl, rfl⟩ rfl rfl rfl rfl rfl (by kernel_rfl) Try.func3 closed
    (of_decide_eq_true (by kernel_rfl)) (by unfold Func.isWrapper; first | (rw [if_pos (by decide +kernel)]; kernel_rfl) | (rw [if_neg (by decide +kernel)]; exact ⟨rfl, rfl⟩))
    (fun os started H enc _ => lifted os started H enc)

/-- the statement -/
theorem fnExactAddAccesses_holds : Rows.FnExactAddAccessesSaid := over
#print axioms fnExactAddAccesses_holds
end Go.Proofs.Ytkpfabigipedcaa
