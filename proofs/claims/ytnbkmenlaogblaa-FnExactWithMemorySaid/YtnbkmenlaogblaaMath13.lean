import Derived.Test.YtnbkmenlaogblaaMath5
import Derived.Test.YtnbkmenlaogblaaWp13
set_option linter.unusedVariables false
set_option linter.unusedSimpArgs false
set_option maxRecDepth 20000
namespace Go.V
theorem wp.laws_szFrameS.math (a : List D.Frame) (x : Int) (h : M.laws_szFrameS_pre a x) : wp.laws_szFrameS a x (fun r => r = M.laws_szFrameS a x) := by
  unfold wp.laws_szFrameS M.laws_szFrameS
  obtain ⟨h1, h2, h3⟩ := h
  unfold M.Long at h3
  rw [w64 (by omega) (by omega)]
  refine bcase_mk (fun e => ?_) fun e => ?_
  · rw [if_pos (by simpa using e)]
  · rw [if_neg (by simpa using e)]
theorem szF_le {a : List D.Frame} {x : Int} (hx : M.Left x) (h : ¬ M.laws_szFrameS a x < 0) : M.Left (M.laws_szFrameS a x) ∧ a.length ≤ 2097152 := by
  unfold M.Left M.laws_szFrameS at *
  split at h
  · exact absurd (show (-1 : Int) < 0 by decide) h
  · rename_i h'; rw [if_neg h']; omega
theorem szI_le {a : List Int} {x : Int} (hx : M.Left x) (h : ¬ M.laws_szIntS a x < 0) : M.Left (M.laws_szIntS a x) ∧ a.length ≤ 2097152 := by
  unfold M.Left M.laws_szIntS at *
  split at h
  · exact absurd (show (-1 : Int) < 0 by decide) h
  · rename_i h'; rw [if_neg h']; omega
theorem szP_le {a : List D.Ins} {x : Int} (hx : M.Left x) (h : ¬ M.laws_szInsS a x < 0) : M.Left (M.laws_szInsS a x) ∧ a.length ≤ 2097152 := by
  unfold M.Left M.laws_szInsS at *
  split at h
  · exact absurd (show (-1 : Int) < 0 by decide) h
  · rename_i h'; rw [if_neg h']; omega
theorem szW_le {a : D.Warp} {x : Int} (hx : M.Left x) (h : ¬ M.laws_szWarp a x < 0) : M.Left (M.laws_szWarp a x) ∧ M.WSmall a := by
  unfold M.laws_szWarp at *
  split at h
  · exact absurd (show (-1 : Int) < 0 by decide) h
  rename_i h1
  split at h
  · exact absurd (show (-1 : Int) < 0 by decide) h
  rename_i h2
  rw [if_neg h1, if_neg h2]
  have k1 := szF_le hx h1
  have k2 := szI_le k1.1 h2
  exact ⟨k2.1, k1.2, k2.2⟩
theorem szWs_le : ∀ {a : List D.Warp} {x : Int}, M.Left x → ¬ M.szWs a x < 0 → M.Left (M.szWs a x) ∧ ∀ y ∈ a, M.WSmall y
  | [], x, hx, h => ⟨hx, fun y hy => absurd hy List.not_mem_nil⟩
  | y :: a, x, hx, h => by
    unfold M.szWs at h ⊢
    split at h
    · exact absurd (show (-1 : Int) < 0 by decide) h
    rename_i h1
    rw [if_neg h1]
    have k1 := szW_le hx h1
    have k2 := szWs_le k1.1 h
    exact ⟨k2.1, fun z hz => (List.mem_cons.1 hz).elim (fun e => e ▸ k1.2) (k2.2 z)⟩
theorem szWS_le {a : List D.Warp} {x : Int} (hx : M.Left x) (h : ¬ M.laws_szWarpS a x < 0) : M.Left (M.laws_szWarpS a x) ∧ M.WsSmall a := by
  unfold M.laws_szWarpS at *
  split at h
  · exact absurd (show (-1 : Int) < 0 by decide) h
  rename_i h1
  rw [if_neg h1]
  have hx' : M.Left (x - a.length) := by unfold M.Left at *; omega
  have k := szWs_le hx' h
  exact ⟨k.1, by unfold M.Left at hx; omega, k.2⟩
theorem szB_le {b : D.Block} {x : Int} (hx : M.Left x) (h : ¬ M.laws_szBlock b x < 0) : M.Left (M.laws_szBlock b x) ∧ M.BSmall b := by
  unfold M.laws_szBlock at *
  split at h
  · exact absurd (show (-1 : Int) < 0 by decide) h
  rename_i h1
  split at h
  · exact absurd (show (-1 : Int) < 0 by decide) h
  rename_i h2
  split at h
  · exact absurd (show (-1 : Int) < 0 by decide) h
  rename_i h3
  rw [if_neg h1, if_neg h2, if_neg h3]
  have k1 := szP_le hx h1
  have k2 := szWS_le k1.1 h2
  have k3 := szI_le k2.1 h3
  exact ⟨k3.1, k1.2, k2.2, k3.2⟩
theorem wp.laws_szWarp.math (a : D.Warp) (x : Int) (h : M.laws_szWarp_pre a x) : wp.laws_szWarp a x (fun r => r = M.laws_szWarp a x) := by
  obtain ⟨hx, h1, h2⟩ := h
  refine ⟨⟨hx.1, hx.2, h1⟩, fun r hr => bcase_mk (fun e => ?_) fun e => ?_⟩
  · subst hr; simp at e; simp [M.laws_szWarp, e]
  have e1 : ¬ M.laws_szFrameS a.Frames x < 0 := by subst hr; simpa using e
  have k := szF_le hx e1
  subst hr
  refine ⟨⟨k.1.1, k.1.2, h2⟩, fun r hr => bcase_mk (fun e2 => ?_) fun e2 => ?_⟩
  · subst hr; simp at e2; simp [M.laws_szWarp, e1, e2]
  · subst hr
    have e2 : ¬ M.laws_szIntS a.Regs (M.laws_szFrameS a.Frames x) < 0 := by simpa using e2
    simp only [M.laws_szWarp, if_neg e1, if_neg e2]
theorem szWs_from (a : List D.Warp) (k : Nat) (hk : k < a.length) (n : Int) : M.szWs (a.drop k) n = if M.laws_szWarp (rd a (k : Int)) n < 0 then -1 else M.szWs (a.drop (k + 1)) (M.laws_szWarp (rd a (k : Int)) n) := by
  rw [List.drop_eq_getElem_cons hk, rd_nat hk]; rfl
/-- a loop over a list, with a state -/
theorem loop_st {σ τ : Type} {B : σ → (σ → Prop) → Prop} {x : σ} (n : Nat) (s0 : τ) (inv : Nat → τ → σ) (F : Nat → τ → Prop) (hx : x = inv 0 s0) (h0 : F 0 s0)
    (hs : ∀ k s, k < n → F k s → ∀ next : σ → Prop, (∀ s', F (k + 1) s' → next (inv (k + 1) s')) → B (inv k s) next)
    (he : ∀ s, F n s → ∀ next : σ → Prop, B (inv n s) next) : LoopP B x := by
  refine ⟨fun m p => ∃ k s, k ≤ n ∧ m = n - k ∧ p = inv k s ∧ F k s, ⟨n, 0, s0, by omega, by omega, hx, h0⟩, ?_⟩
  rintro m p ⟨k, s, hk, rfl, rfl, hF⟩
  by_cases h : k < n
  · exact hs k s h hF _ fun s' hF' => ⟨n - (k + 1), by omega, k + 1, s', by omega, rfl, rfl, hF'⟩
  · have : k = n := by omega
    subst this
    exact he s hF _
theorem wp.laws_szWarpS.math (a : List D.Warp) (x : Int) (h : M.laws_szWarpS_pre a x) : wp.laws_szWarpS a x (fun r => r = M.laws_szWarpS a x) := by
  obtain ⟨hx, h1, h2⟩ := h
  have hx' := hx
  unfold M.Left at hx'
  have h1' : a.length ≤ 9223372036854775807 := h1
  unfold wp.laws_szWarpS M.laws_szWarpS
  rw [w64 (by omega) (by omega)]
  refine bcase_mk (fun e => ?_) fun e => ?_
  · rw [if_pos (by simpa using e)]
  have e : ¬ x - (a.length : Int) < 0 := by simpa using e
  rw [if_neg e]
  refine loop_st (τ := Int) a.length (x - a.length) (fun k n => (n, (k : Int), ())) (fun k n => M.Left n ∧ M.szWs (a.drop k) n = M.szWs a (x - a.length)) rfl ⟨by unfold M.Left; omega, rfl⟩ (fun k n hk hF next hn => ?_) fun n hF next => ?_
  · obtain ⟨hL, hE⟩ := hF
    rw [szWs_from a k hk] at hE
    refine bcase_t (by simp; omega) ⟨by omega, ⟨hL, h2 _ (rd_mem hk)⟩, fun r hr => bcase_mk (fun e2 => ?_) fun e2 => ?_⟩
    · subst hr
      have e2 : M.laws_szWarp (rd a (k : Int)) n < 0 := by simpa using e2
      rw [if_pos e2] at hE; exact hE
    · subst hr
      have e2 : ¬ M.laws_szWarp (rd a (k : Int)) n < 0 := by simpa using e2
      rw [if_neg e2] at hE
      rw [up64 hk h1']
      exact hn _ ⟨(szW_le hL e2).1, hE⟩
  · refine bcase_f (by simp) ?_
    have := hF.2
    rw [List.drop_length] at this
    exact this
theorem wp.laws_szBlock.math (b : D.Block) (x : Int) (h : M.laws_szBlock_pre b x) : wp.laws_szBlock b x (fun r => r = M.laws_szBlock b x) := by
  obtain ⟨hx, h1, h2, h3⟩ := h
  refine ⟨⟨hx.1, hx.2, h1⟩, fun r hr => bcase_mk (fun e => ?_) fun e => ?_⟩
  · subst hr; simp at e; simp [M.laws_szBlock, e]
  subst hr
  have e : ¬ M.laws_szInsS b.Code x < 0 := by simpa using e
  have k := (szP_le hx e).1
  refine ⟨⟨k, h2⟩, fun r hr => bcase_mk (fun e2 => ?_) fun e2 => ?_⟩
  · subst hr; simp at e2; simp [M.laws_szBlock, e, e2]
  subst hr
  have e2 : ¬ M.laws_szWarpS b.Warps (M.laws_szInsS b.Code x) < 0 := by simpa using e2
  have k2 := (szWS_le k e2).1
  refine ⟨⟨k2.1, k2.2, h3⟩, fun r hr => bcase_mk (fun e3 => ?_) fun e3 => ?_⟩
  · subst hr; simp at e3; simp [M.laws_szBlock, e, e2, e3]
  subst hr
  have e3 : ¬ M.laws_szIntS b.Memory (M.laws_szWarpS b.Warps (M.laws_szInsS b.Code x)) < 0 := by simpa using e3
  simp only [M.laws_szBlock, if_neg e, if_neg e2, if_neg e3]
theorem wp.laws_toFrame.math (a : D.Frame) : wp.laws_toFrame a (fun r => r = M.laws_toFrame a) := rfl
theorem wp.laws_toFrameS.math (a : List D.Frame) (h : M.laws_toFrameS_pre a) : wp.laws_toFrameS a (fun r => r = M.laws_toFrameS a) := by
  unfold wp.laws_toFrameS
  unfold M.laws_toFrameS_pre at h
  refine ⟨by omega, ?_⟩
  refine loop_n a.length (fun k => ((k : Int), cp id a k, ())) (fun _ => True) (by simp [cp_zero]) trivial (fun k hk hF next hn => ?_) fun hF next => ?_
  · refine bcase_t (by simp; omega) ⟨by omega, fun r hr => ⟨⟨by omega, by simp only [cp_len id a (Nat.le_of_lt hk)]; omega⟩, ?_⟩⟩
    rw [rd_nat hk] at hr
    subst hr
    rw [up64 hk (by omega)]
    have := cp_set id a hk
    simp only [id] at this
    simp only [Int.toNat_natCast]
    rw [show (⟨(M.laws_toFrame a[k]).Pc, (M.laws_toFrame a[k]).Stop, (M.laws_toFrame a[k]).Mask⟩ : D.Frame) = a[k] from rfl, this]
    exact hn trivial
  · exact bcase_f (by simp) (by rw [cp_all]; simp [M.laws_toFrameS])
theorem wp.laws_toWarp.math (a : D.Warp) (h : M.laws_toWarp_pre a) : wp.laws_toWarp a (fun r => r = M.laws_toWarp a) :=
  ⟨h.1, fun r hr => ⟨h.2, fun r2 hr2 => by rw [hr, hr2]; rfl⟩⟩
theorem wp.laws_toWarpS.math (a : List D.Warp) (h : M.laws_toWarpS_pre a) : wp.laws_toWarpS a (fun r => r = M.laws_toWarpS a) := by
  unfold wp.laws_toWarpS
  obtain ⟨h1, h2⟩ := h
  refine ⟨by omega, ?_⟩
  refine loop_n a.length (fun k => ((k : Int), cp id a k, ())) (fun _ => True) (by simp [cp_zero]) trivial (fun k hk hF next hn => ?_) fun hF next => ?_
  · refine bcase_t (by simp; omega) ⟨by omega, h2 _ (rd_mem hk), fun r hr => ⟨⟨by omega, by simp only [cp_len id a (Nat.le_of_lt hk)]; omega⟩, ?_⟩⟩
    rw [rd_nat hk] at hr
    subst hr
    rw [up64 hk (by omega)]
    have := cp_set id a hk
    simp only [id] at this
    simp only [Int.toNat_natCast]
    rw [show M.laws_toWarp a[k] = a[k] from rfl, this]
    exact hn trivial
  · exact bcase_f (by simp) (by rw [cp_all]; simp [M.laws_toWarpS])
theorem wp.laws_toBlock.math (a : D.Block) (h : M.laws_toBlock_pre a) : wp.laws_toBlock a (fun r => r = M.laws_toBlock a) :=
  ⟨h.1, fun r hr => ⟨h.2.1, fun r2 hr2 => ⟨h.2.2, fun r3 hr3 => by rw [hr, hr2, hr3]; rfl⟩⟩⟩
theorem wp.laws_eqFrame.math (a b : D.Frame) : wp.laws_eqFrame a b (fun r => r = M.laws_eqFrame a b) := by
  cases a; cases b
  unfold wp.laws_eqFrame M.laws_eqFrame
  refine bcase_mk (fun e => ?_) fun e => bcase_mk (fun e2 => ?_) fun e2 => bcase_mk (fun e3 => ?_) fun e3 => ?_
  all_goals simp at *
  · intro h; exact absurd h e
  · intro _ h; exact absurd h e2
  · intro _ _ h; exact absurd h e3
  · exact ⟨e, e2, e3⟩
/-- two lists held against each other, element by element -/
theorem eq_loop {α : Type} [Inhabited α] [BEq α] [LawfulBEq α] {a b : List α} (ha : M.Long a) (hl : a.length = b.length) {B : (Int × Unit) → ((Int × Unit) → Prop) → Prop} {Q : Bool → Prop}
    (hb : ∀ (k : Nat) (next : (Int × Unit) → Prop), k < a.length → k < b.length → (rd a (k : Int) ≠ rd b (k : Int) → Q false) → (rd a (k : Int) = rd b (k : Int) → next (((k + 1 : Nat) : Int), ())) → B ((k : Int), ()) next)
    (he : ∀ (next : (Int × Unit) → Prop), a = b → B ((a.length : Int), ()) next) (hQ : a ≠ b → Q false) : LoopP B (0, ()) := by
  refine loop_n a.length (fun k => ((k : Int), ())) (fun k => ∀ j : Nat, j < k → rd a j = rd b j) rfl (by simp) (fun k hk hF next hn => ?_) fun hF next => ?_
  · refine hb k next hk (by omega) (fun e => hQ (fun h => e (by rw [h]))) fun e => hn fun j hj => ?_
    by_cases hjk : j = k
    · subst hjk; exact e
    · exact hF j (by omega)
  · exact he next (eq_of_takes hl hF)
theorem wp.laws_eqFrameS.math (a b : List D.Frame) (h : M.laws_eqFrameS_pre a b) : wp.laws_eqFrameS a b (fun r => r = M.laws_eqFrameS a b) := by
  unfold wp.laws_eqFrameS
  refine bcase_mk (fun e => ?_) fun e => ?_
  · simp [M.laws_eqFrameS]; rintro rfl; simp at e
  have hl : a.length = b.length := by simp at e; omega
  refine eq_loop h hl (Q := fun r => r = M.laws_eqFrameS a b) (fun k next hk hk' h1 h2 => ?_) (fun next e => bcase_f (by simp) (by simp [M.laws_eqFrameS, e])) fun hne => by simp [M.laws_eqFrameS, hne]
  refine bcase_t (by simp; omega) ⟨by omega, by omega, fun r hr => bcase_mk (fun e => ?_) fun e => ?_⟩
  · exact h1 (by subst hr; simpa [M.laws_eqFrame] using e)
  · rw [up64 hk h]; exact h2 (by subst hr; simpa [M.laws_eqFrame] using e)
theorem wp.laws_eqWarp.math (a b : D.Warp) (h : M.laws_eqWarp_pre a b) : wp.laws_eqWarp a b (fun r => r = M.laws_eqWarp a b) := by
  obtain ⟨h1, h2⟩ := h
  cases a; cases b
  refine bcase_mk (fun e => ?_) fun e => ⟨h1, fun r hr => bcase_mk (fun e2 => ?_) fun e2 => ⟨h2, fun r2 hr2 => bcase_mk (fun e3 => ?_) fun e3 => ?_⟩⟩
  all_goals simp [M.laws_eqWarp, M.laws_eqFrameS, M.laws_eqIntS] at *
  · intro h; exact absurd h e
  · subst hr; intro _ h; simp [h] at e2
  · subst hr hr2; intro _ _ h; simp [h] at e3
  · subst hr hr2; simp at e2 e3; exact ⟨e, e2, e3⟩
theorem wp.laws_eqWarpS.math (a b : List D.Warp) (h : M.laws_eqWarpS_pre a b) : wp.laws_eqWarpS a b (fun r => r = M.laws_eqWarpS a b) := by
  unfold wp.laws_eqWarpS
  obtain ⟨h, hW⟩ := h
  refine bcase_mk (fun e => ?_) fun e => ?_
  · simp [M.laws_eqWarpS]; rintro rfl; simp at e
  have hl : a.length = b.length := by simp at e; omega
  refine eq_loop h hl (Q := fun r => r = M.laws_eqWarpS a b) (fun k next hk hk' h1 h2 => ?_) (fun next e => bcase_f (by simp) (by simp [M.laws_eqWarpS, e])) fun hne => by simp [M.laws_eqWarpS, hne]
  refine bcase_t (by simp; omega) ⟨by omega, by omega, hW _ (rd_mem hk), fun r hr => bcase_mk (fun e => ?_) fun e => ?_⟩
  · exact h1 (by subst hr; simpa [M.laws_eqWarp] using e)
  · rw [up64 hk h]; exact h2 (by subst hr; simpa [M.laws_eqWarp] using e)
theorem wp.laws_eqBlock.math (a b : D.Block) (h : M.laws_eqBlock_pre a b) : wp.laws_eqBlock a b (fun r => r = M.laws_eqBlock a b) := by
  obtain ⟨h1, h2, h3⟩ := h
  cases a; cases b
  refine ⟨h1, fun r hr => bcase_mk (fun e => ?_) fun e => ⟨h2, fun r2 hr2 => bcase_mk (fun e2 => ?_) fun e2 => ⟨h3, fun r3 hr3 => bcase_mk (fun e3 => ?_) fun e3 => bcase_mk (fun e4 => ?_) fun e4 => bcase_mk (fun e5 => ?_) fun e5 => ?_⟩⟩⟩
  all_goals simp [M.laws_eqBlock, M.laws_eqInsS, M.laws_eqWarpS, M.laws_eqIntS] at *
  · subst hr; intro h; simp [h] at e
  · subst hr hr2; intro _ h; simp [h] at e2
  · subst hr hr2 hr3; intro _ _ h; simp [h] at e3
  · intro _ _ _ h; exact absurd h e4
  · intro _ _ _ _ h; exact absurd h e5
  · subst hr hr2 hr3; simp at e e2 e3; exact ⟨e, e2, e3, e4, e5⟩
end Go.V
