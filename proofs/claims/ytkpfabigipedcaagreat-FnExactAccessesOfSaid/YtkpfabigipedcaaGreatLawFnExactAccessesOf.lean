/-
  The law FnExactAccessesOf holds: for every input the law's function returns true, and the arguments read as they did.
  Conditions: none.
-/
import Derived.Test.YtkpfabigipedcaaGreatRows
import Derived.Test.YtkpfabigipedcaaGreatAcVReadW
import Derived.Test.YtkpfabigipedcaaGreatAcCon2
namespace Go.Proofs.YtkpfabigipedcaaGreat
open Go.V Go.ChangeShapes Go.WideShapes Go.ChangeAt Go.RowKit
set_option linter.unusedVariables false
set_option linter.unusedSimpArgs false
set_option maxRecDepth 100000

theorem own : ownKnob Tryz.prog.godebug = none := by kernel_rfl
theorem laidOut : laidOutB Tryz.prog = true := by kernel_rfl
theorem dec3 {H : Type} {enc : TypeId × Value → H} {w : World} {base : Nat} {spare : Nat → Bool} {held : Bool} : Dec H enc Tryz.prog w base spare held 3 (fun cs (a : Int) => cs = [.int .i64 a] ∧ In64 a) := dec_int (by kernel_rfl)
theorem dec117 {H : Type} {enc : TypeId × Value → H} {w : World} {base : Nat} {spare : Nat → Bool} {held : Bool} : Dec H enc Tryz.prog w base spare held 117 (fun cs (a : D.Ins) => cs = el117.enc a ∧ (In64 a.Op ∧ In64 a.A ∧ In64 a.B ∧ In64 a.C)) := by
  intro n cs x h
  obtain ⟨hl, hf⟩ := dec_struct (l := [(3, 0), (3, 1), (3, 2), (3, 3)]) (by kernel_rfl) h
  rw [show Tryz.prog.cellsOf 117 = 4 from by kernel_rfl] at hl
  match cs, hl with
  | [c0, c1, c2, c3], _ =>
    obtain ⟨m0, y0, h0⟩ := hf 0 3 0 rfl
    rw [show Tryz.prog.cellsOf 3 = 1 from by kernel_rfl] at h0
    obtain ⟨a0, e0, b0⟩ := dec3 _ _ _ h0
    simp at e0
    subst e0
    obtain ⟨m1, y1, h1⟩ := hf 1 3 1 rfl
    rw [show Tryz.prog.cellsOf 3 = 1 from by kernel_rfl] at h1
    obtain ⟨a1, e1, b1⟩ := dec3 _ _ _ h1
    simp at e1
    subst e1
    obtain ⟨m2, y2, h2⟩ := hf 2 3 2 rfl
    rw [show Tryz.prog.cellsOf 3 = 1 from by kernel_rfl] at h2
    obtain ⟨a2, e2, b2⟩ := dec3 _ _ _ h2
    simp at e2
    subst e2
    obtain ⟨m3, y3, h3⟩ := hf 3 3 3 rfl
    rw [show Tryz.prog.cellsOf 3 = 1 from by kernel_rfl] at h3
    obtain ⟨a3, e3, b3⟩ := dec3 _ _ _ h3
    simp at e3
    subst e3
    exact ⟨⟨a0, a1, a2, a3⟩, rfl, b0, b1, b2, b3⟩
theorem dec22 {H : Type} {enc : TypeId × Value → H} {w : World} {base : Nat} {spare : Nat → Bool} {held : Bool} : Dec H enc Tryz.prog w base spare held 22 (fun cs (a : List D.Ins) => ∃ A c, cs = [.slice A a.length c] ∧ a.length ≤ c ∧ c ≤ maxLen ∧ Row el117 w A a ∧ ∀ y ∈ a, (In64 y.Op ∧ In64 y.A ∧ In64 y.B ∧ In64 y.C)) :=
  dec_row (E := el117) (Q := fun y => (In64 y.Op ∧ In64 y.A ∧ In64 y.B ∧ In64 y.C)) (by kernel_rfl) (by kernel_rfl) dec117
theorem dec169 {H : Type} {enc : TypeId × Value → H} {w : World} {base : Nat} {spare : Nat → Bool} {held : Bool} : Dec H enc Tryz.prog w base spare held 169 (fun cs (a : D.Frame) => cs = el169.enc a ∧ (In64 a.Pc ∧ In64 a.Stop ∧ In64 a.Mask)) := by
  intro n cs x h
  obtain ⟨hl, hf⟩ := dec_struct (l := [(3, 0), (3, 1), (3, 2)]) (by kernel_rfl) h
  rw [show Tryz.prog.cellsOf 169 = 3 from by kernel_rfl] at hl
  match cs, hl with
  | [c0, c1, c2], _ =>
    obtain ⟨m0, y0, h0⟩ := hf 0 3 0 rfl
    rw [show Tryz.prog.cellsOf 3 = 1 from by kernel_rfl] at h0
    obtain ⟨a0, e0, b0⟩ := dec3 _ _ _ h0
    simp at e0
    subst e0
    obtain ⟨m1, y1, h1⟩ := hf 1 3 1 rfl
    rw [show Tryz.prog.cellsOf 3 = 1 from by kernel_rfl] at h1
    obtain ⟨a1, e1, b1⟩ := dec3 _ _ _ h1
    simp at e1
    subst e1
    obtain ⟨m2, y2, h2⟩ := hf 2 3 2 rfl
    rw [show Tryz.prog.cellsOf 3 = 1 from by kernel_rfl] at h2
    obtain ⟨a2, e2, b2⟩ := dec3 _ _ _ h2
    simp at e2
    subst e2
    exact ⟨⟨a0, a1, a2⟩, rfl, b0, b1, b2⟩
theorem dec109 {H : Type} {enc : TypeId × Value → H} {w : World} {base : Nat} {spare : Nat → Bool} {held : Bool} : Dec H enc Tryz.prog w base spare held 109 (fun cs (a : List D.Frame) => ∃ A c, cs = [.slice A a.length c] ∧ a.length ≤ c ∧ c ≤ maxLen ∧ Row el169 w A a ∧ ∀ y ∈ a, (In64 y.Pc ∧ In64 y.Stop ∧ In64 y.Mask)) :=
  dec_row (E := el169) (Q := fun y => (In64 y.Pc ∧ In64 y.Stop ∧ In64 y.Mask)) (by kernel_rfl) (by kernel_rfl) dec169
theorem dec24 {H : Type} {enc : TypeId × Value → H} {w : World} {base : Nat} {spare : Nat → Bool} {held : Bool} : Dec H enc Tryz.prog w base spare held 24 (fun cs (a : List Int) => ∃ A c, cs = [.slice A a.length c] ∧ a.length ≤ c ∧ c ≤ maxLen ∧ Row el3 w A a ∧ ∀ y ∈ a, In64 y) :=
  dec_row (E := el3) (Q := fun y => In64 y) (by kernel_rfl) (by kernel_rfl) dec3
theorem dec111 {H : Type} {enc : TypeId × Value → H} {w : World} {base : Nat} {spare : Nat → Bool} {held : Bool} : Dec H enc Tryz.prog w base spare held 111 (fun cs (a : D.Warp) => ∃ A1 c1 A2 c2, cs = [.int .i64 a.Number, .slice A1 a.Frames.length c1, .slice A2 a.Regs.length c2] ∧ (a.Frames.length ≤ c1 ∧ c1 ≤ maxLen ∧ Row el169 w A1 a.Frames) ∧ (a.Regs.length ≤ c2 ∧ c2 ≤ maxLen ∧ Row el3 w A2 a.Regs) ∧ True) := by
  intro n cs x h
  obtain ⟨hl, hf⟩ := dec_struct (l := [(3, 0), (109, 1), (24, 2)]) (by kernel_rfl) h
  rw [show Tryz.prog.cellsOf 111 = 3 from by kernel_rfl] at hl
  match cs, hl with
  | [k0, k1, k2], _ =>
    obtain ⟨m0, y0, h0⟩ := hf 0 3 0 rfl
    rw [show Tryz.prog.cellsOf 3 = 1 from by kernel_rfl] at h0
    obtain ⟨a0, e0, b0⟩ := dec3 _ _ _ h0
    simp at e0
    subst e0
    obtain ⟨m1, y1, h1⟩ := hf 1 109 1 rfl
    rw [show Tryz.prog.cellsOf 109 = 1 from by kernel_rfl] at h1
    obtain ⟨a1, A1, c1, e1, q1, r1, s1, u1⟩ := dec109 _ _ _ h1
    simp at e1
    subst e1
    obtain ⟨m2, y2, h2⟩ := hf 2 24 2 rfl
    rw [show Tryz.prog.cellsOf 24 = 1 from by kernel_rfl] at h2
    obtain ⟨a2, A2, c2, e2, q2, r2, s2, u2⟩ := dec24 _ _ _ h2
    simp at e2
    subst e2
    exact ⟨⟨a0, a1, a2⟩, A1, c1, A2, c2, rfl, ⟨q1, r1, s1⟩, ⟨q2, r2, s2⟩, trivial⟩
theorem dec23 {H : Type} {enc : TypeId × Value → H} {w : World} {base : Nat} {spare : Nat → Bool} {held : Bool} : Dec H enc Tryz.prog w base spare held 23 (fun cs (a : List D.Warp) => ∃ A c, cs = [.slice A a.length c] ∧ a.length ≤ c ∧ c ≤ maxLen ∧ RowW 111 el169 el3 w A a ∧ ∀ y ∈ a, M.WLong y) := dec_rowW (by kernel_rfl) (by kernel_rfl) dec111
theorem dec26 {H : Type} {enc : TypeId × Value → H} {w : World} {base : Nat} {spare : Nat → Bool} {held : Bool} : Dec H enc Tryz.prog w base spare held 26 (fun cs (a : D.Block) => ∃ A0 c0 A1 c1 A2 c2, cs = [.slice A0 a.Code.length c0, .slice A1 a.Warps.length c1, .slice A2 a.Memory.length c2, .int .i64 a.Waiting, .int .i64 a.Phase] ∧ (a.Code.length ≤ c0 ∧ c0 ≤ maxLen ∧ Row el117 w A0 a.Code) ∧ (a.Warps.length ≤ c1 ∧ c1 ≤ maxLen ∧ RowW 111 el169 el3 w A1 a.Warps ∧ ∀ y ∈ a.Warps, M.WLong y) ∧ (a.Memory.length ≤ c2 ∧ c2 ≤ maxLen ∧ Row el3 w A2 a.Memory) ∧ True) := by
  intro n cs x h
  obtain ⟨hl, hf⟩ := dec_struct (l := [(22, 0), (23, 1), (24, 2), (3, 3), (3, 4)]) (by kernel_rfl) h
  rw [show Tryz.prog.cellsOf 26 = 5 from by kernel_rfl] at hl
  match cs, hl with
  | [k0, k1, k2, k3, k4], _ =>
    obtain ⟨m0, y0, h0⟩ := hf 0 22 0 rfl
    rw [show Tryz.prog.cellsOf 22 = 1 from by kernel_rfl] at h0
    obtain ⟨a0, A0, c0, e0, q0, r0, s0, u0⟩ := dec22 _ _ _ h0
    simp at e0
    subst e0
    obtain ⟨m1, y1, h1⟩ := hf 1 23 1 rfl
    rw [show Tryz.prog.cellsOf 23 = 1 from by kernel_rfl] at h1
    obtain ⟨a1, A1, c1, e1, q1, r1, s1, u1⟩ := dec23 _ _ _ h1
    simp at e1
    subst e1
    obtain ⟨m2, y2, h2⟩ := hf 2 24 2 rfl
    rw [show Tryz.prog.cellsOf 24 = 1 from by kernel_rfl] at h2
    obtain ⟨a2, A2, c2, e2, q2, r2, s2, u2⟩ := dec24 _ _ _ h2
    simp at e2
    subst e2
    obtain ⟨m3, y3, h3⟩ := hf 3 3 3 rfl
    rw [show Tryz.prog.cellsOf 3 = 1 from by kernel_rfl] at h3
    obtain ⟨a3, e3, b3⟩ := dec3 _ _ _ h3
    simp at e3
    subst e3
    obtain ⟨m4, y4, h4⟩ := hf 4 3 4 rfl
    rw [show Tryz.prog.cellsOf 3 = 1 from by kernel_rfl] at h4
    obtain ⟨a4, e4, b4⟩ := dec3 _ _ _ h4
    simp at e4
    subst e4
    exact ⟨⟨a0, a1, a2, a3, a4⟩, A0, c0, A1, c1, A2, c2, rfl, ⟨q0, r0, s0⟩, ⟨q1, r1, s1, u1⟩, ⟨q2, r2, s2⟩, trivial⟩

theorem lifted (os : Os) (started : os.Started) (H : Type) (enc : TypeId × Value → H) :
    ReturnsInHanded {} Tryz.checked os 3 .any (Rows.fnExactAccessesOfSpec.pre6 enc Tryz.prog Tryz.f3 Rows.fnExactAccessesOfRow.domain false) (Rows.fnExactAccessesOfSpec.post enc Tryz.prog Tryz.f3 false true false false) := by
  refine returnsInHanded_of_change (C := Tryz.checked) own started (by kernel_rfl) Tryz.func3
    (ChangeSpec.witness6 (enc := enc) (C := Tryz.checked) false ⟨#[], #[.agg #[.slice none 0 0, .slice none 0 0, .slice none 0 0, .int .i64 0, .int .i64 0], .int .i64 0], []⟩ 8 (by kernel_rfl) (by kernel_rfl) (by kernel_rfl) (by kernel_rfl)) ?_
  intro W base args ds gs before hval0 hW hcnd _
  have hval : ∀ (j : Nat) t v, Tryz.f3.params[j]? = some t → args[j]? = some v → Value.okWide Tryz.prog W .any base t v := hval0
  have hW' := hW
  obtain ⟨p, q, hA0, hV, rfl, hfz, hnd⟩ := hW
  have hA : DataW.TrodAll enc Tryz.prog W 0 (fun _ => true) true Tryz.f3.params.toList args.toList ds p := hA0
  rw [Tryz.params3] at hA hval
  obtain ⟨v0, vs0, d0, ds0, p0, q0, hargs, rfl, rfl, h0, r0⟩ := trodAll_cons hA
  obtain ⟨v1, vs1, d1, ds1, p1, q1, rfl, rfl, rfl, h1, r1⟩ := trodAll_cons r0
  obtain ⟨rfl, rfl, rfl⟩ := trodAll_nil r1
  obtain rfl : args = #[v0, v1] := by cases args; simp_all
  obtain ⟨rfl, rfl⟩ := trodVars_none hV
  have k0 := h0
  have lt0 : ∀ x ∈ p0, x.block < W.heap.size := by obtain ⟨m, hm⟩ := k0; exact DataW.trod_lt m _ _ _ hm
  obtain ⟨fu0, hf0⟩ := h0
  obtain ⟨cs0, rfl⟩ := agg_of (l := [(22, 0), (23, 1), (24, 2), (3, 3), (3, 4)]) (by kernel_rfl) (hval 0 26 v0 rfl rfl)
  obtain ⟨x0, A0_0, c0_0, A0_1, c0_1, A0_2, c0_2, e0, ⟨hc0_0, hm0_0, R0_0⟩, ⟨hc0_1, hm0_1, R0_1, hw0_1⟩, ⟨hc0_2, hm0_2, R0_2⟩, _⟩ := dec26 _ _ _ hf0
  obtain rfl : cs0 = #[.slice A0_0 x0.Code.length c0_0, .slice A0_1 x0.Warps.length c0_1, .slice A0_2 x0.Memory.length c0_2, .int .i64 x0.Waiting, .int .i64 x0.Phase] := by cases cs0; simpa [Value.cells] using e0
  have hn0_0 : x0.Code.length ≤ 9223372036854775807 := Nat.le_trans hc0_0 hm0_0
  have hn0_1 : x0.Warps.length ≤ 9223372036854775807 := Nat.le_trans hc0_1 hm0_1
  have hn0_2 : x0.Memory.length ≤ 9223372036854775807 := Nat.le_trans hc0_2 hm0_2
  have k1 := h1
  have lt1 : ∀ x ∈ p1, x.block < W.heap.size := by obtain ⟨m, hm⟩ := k1; exact DataW.trod_lt m _ _ _ hm
  obtain ⟨fu1, hf1⟩ := h1
  obtain ⟨x1, rfl, rfl, rfl, wx1⟩ := open_int (show Tryz.prog.underlying 3 = some (.int .i64) from by kernel_rfl) (hval 1 3 v1 rfl rfl) k1
  have b1 := in64_of wx1
  clear hA0 hval0
  refine (laws_FnExactAccessesOf.con (r := true) ((show M.laws_FnExactAccessesOf_pre x0 x1 from ⟨hn0_0, ⟨hn0_1, hw0_1⟩, hn0_2⟩)) rfl R0_0 hc0_0 R0_1 hc0_1 R0_2 hc0_2).calls.mono fun e W' ⟨v, he, hv, bel⟩ => ?_
  subst he
  subst hv
  exact ⟨_, rfl, _, _, _, [], _, [], hW', trodAll_mk1 (shut_bool (show Tryz.prog.underlying 4 = some .bool from by kernel_rfl) _), (trodAll_cons_mk (Below.trod laidOut (by kernel_rfl) (of_decide_eq_true (by kernel_rfl)) k0 bel lt0) (trodAll_cons_mk (Below.trod laidOut (by kernel_rfl) (of_decide_eq_true (by kernel_rfl)) k1 bel lt1) trodAll_mk0)), rfl, bel.frame _, fun h => by cases h⟩

theorem band {a b : Bool} (h : a = true) (k : b = true) : (a && b) = true := by rw [h, k]; rfl
theorem j9 : (Rows.fnExactAccessesOfRow.inPlace == Tryz.pinned.checked.prog.inPlace 3) = true := by kernel_rfl
theorem j10 : (Rows.fnExactAccessesOfRow.unfollowed == Tryz.pinned.checked.prog.unfollowed 3) = true := by kernel_rfl
theorem j11 : (Rows.fnExactAccessesOfRow.recurses == Tryz.pinned.checked.prog.recurses 3) = true := by kernel_rfl
theorem j12 : (Rows.fnExactAccessesOfRow.named == Tryz.pinned.checked.prog.varsNamed 3) = true := by kernel_rfl
theorem closed : joinedFacts Tryz.pinned.checked.prog 3 Tryz.f3 Rows.fnExactAccessesOfSpec Rows.fnExactAccessesOfRow = true := by
  unfold joinedFacts
  exact (band (band (band (band (band (band (band (band (band (band (band (band (band (band (band (band (band (band (band (band (band (band (band (band (band (band (band (band (band (band (band (by kernel_rfl) laidOut) (by kernel_rfl)) (by kernel_rfl)) (by kernel_rfl)) (by kernel_rfl)) (by kernel_rfl)) (by kernel_rfl)) (by kernel_rfl)) j9) j10) j11) j12) (by kernel_rfl)) (by kernel_rfl)) (by kernel_rfl)) (by kernel_rfl)) (by kernel_rfl)) (by kernel_rfl)) (by kernel_rfl)) (by kernel_rfl)) (by kernel_rfl)) (by kernel_rfl)) (by kernel_rfl)) (by kernel_rfl)) (by kernel_rfl)) (by kernel_rfl)) (by kernel_rfl)) (by kernel_rfl)) (by kernel_rfl)) (by kernel_rfl)) (by kernel_rfl))

theorem over : Rows.fnExactAccessesOfRow.holds Tryz.pinned (OpenSpec.ofChange Rows.fnExactAccessesOfSpec) :=
  OpenClaim.holds_of_wide 3 Tryz.f3 rfl rfl rfl rfl rfl rfl rfl ⟨rfl, rfl, rfl, rfl, rfl⟩ rfl rfl rfl rfl rfl (by kernel_rfl) Tryz.func3 closed
    (of_decide_eq_true (by kernel_rfl)) (by unfold Func.isWrapper; first | (rw [if_pos (by decide +kernel)]; kernel_rfl) | (rw [if_neg (by decide +kernel)]; exact ⟨rfl, rfl⟩))
    (fun os started H enc _ => lifted os started H enc)

/-- the statement -/
theorem fnExactAccessesOf_holds : Rows.FnExactAccessesOfSaid := over
#print axioms fnExactAccessesOf_holds
end Go.Proofs.YtkpfabigipedcaaGreat
