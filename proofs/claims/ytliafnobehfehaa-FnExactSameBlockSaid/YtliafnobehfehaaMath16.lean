import Derived.Test.YtliafnobehfehaaMath14
import Derived.Test.YtliafnobehfehaaWp16
set_option linter.unusedVariables false
set_option linter.unusedSimpArgs false
set_option maxRecDepth 20000
namespace Go.V
theorem insB (a b : D.Ins) : ((a.Op == b.Op) && (a.A == b.A) && (a.B == b.B) && (a.C == b.C)) = (a == b) := by
  cases a; cases b; rw [Bool.eq_iff_iff]; simp [and_assoc]
theorem frameB (a b : D.Frame) : ((a.Pc == b.Pc) && (a.Stop == b.Stop) && (a.Mask == b.Mask)) = (a == b) := by
  cases a; cases b; rw [Bool.eq_iff_iff]; simp [and_assoc]
/-- loops that hold two rows against each other -/
theorem same_loop {α : Type} [Inhabited α] [BEq α] [LawfulBEq α] {a b : List α} (ha : M.Long a) {Q : Bool → Prop} {B : (Int × Unit) → ((Int × Unit) → Prop) → Prop}
    (hb : a.length = b.length → ∀ (k : Nat) (next : (Int × Unit) → Prop), k < a.length → k < b.length → (rd a (k : Int) ≠ rd b (k : Int) → Q false) → (rd a (k : Int) = rd b (k : Int) → next (((k + 1 : Nat) : Int), ())) → B ((k : Int), ()) next)
    (he : ∀ (next : (Int × Unit) → Prop), a = b → B ((a.length : Int), ()) next) (hQ : a ≠ b → Q false) : bcase (((a.length : Nat) : Int) != ((b.length : Nat) : Int)) (Q false) (LoopP B (0, ())) := by
  refine bcase_mk (fun e => hQ ?_) fun e => ?_
  · rintro rfl; simp at e
  · have hl : a.length = b.length := by simp at e; omega
    exact eq_loop ha hl (hb hl) he hQ
theorem wp.spec_SamePrograms.math (a b : List D.Ins) (h : M.spec_SamePrograms_pre a b) : wp.spec_SamePrograms a b (fun r => r = M.spec_SamePrograms a b) := by
  unfold wp.spec_SamePrograms
  simp only [insB]
  refine same_loop h (Q := fun r => r = M.spec_SamePrograms a b) (fun hl k next hk hk' h1 h2 => ?_) (fun next e => bcase_f (by simp) (by simp [M.spec_SamePrograms, e])) fun hne => by simp [M.spec_SamePrograms, hne]
  refine bcase_t (by simp; omega) ⟨by omega, by omega, bcase_mk (fun e => h1 (by simpa using e)) fun e => ?_⟩
  rw [up64 hk h]; exact h2 (by simpa using e)
theorem wp.spec_l29Ints.math (a b : List Int) (h : M.spec_l29Ints_pre a b) : wp.spec_l29Ints a b (fun r => r = M.spec_l29Ints a b) := by
  unfold wp.spec_l29Ints
  refine same_loop h (Q := fun r => r = M.spec_l29Ints a b) (fun hl k next hk hk' h1 h2 => ?_) (fun next e => bcase_f (by simp) (by simp [M.spec_l29Ints, e])) fun hne => by simp [M.spec_l29Ints, hne]
  refine bcase_t (by simp; omega) ⟨by omega, by omega, bcase_mk (fun e => h1 (by simpa using e)) fun e => ?_⟩
  rw [up64 hk h]; exact h2 (by simpa using e)
theorem wp.slices_Equal_impl_Ins_impl_Ins.math (a b : List D.Ins) (h : M.slices_Equal_impl_Ins_impl_Ins_pre a b) : wp.slices_Equal_impl_Ins_impl_Ins a b (fun r => r = M.slices_Equal_impl_Ins_impl_Ins a b) := by
  unfold wp.slices_Equal_impl_Ins_impl_Ins
  simp only [insB]
  refine same_loop h (Q := fun r => r = M.slices_Equal_impl_Ins_impl_Ins a b) (fun hl k next hk hk' h1 h2 => ?_) (fun next e => bcase_f (by simp) (by simp [M.slices_Equal_impl_Ins_impl_Ins, e])) fun hne => by simp [M.slices_Equal_impl_Ins_impl_Ins, hne]
  refine bcase_t (by simp; omega) ⟨by omega, by omega, bcase_mk (fun e => h1 (by simpa using e)) fun e => ?_⟩
  rw [up64 hk h]; exact h2 (by simpa using e)
theorem wp.slices_Equal_impl_Frame_impl_Frame.math (a b : List D.Frame) (h : M.slices_Equal_impl_Frame_impl_Frame_pre a b) : wp.slices_Equal_impl_Frame_impl_Frame a b (fun r => r = M.slices_Equal_impl_Frame_impl_Frame a b) := by
  unfold wp.slices_Equal_impl_Frame_impl_Frame
  simp only [frameB]
  refine same_loop h (Q := fun r => r = M.slices_Equal_impl_Frame_impl_Frame a b) (fun hl k next hk hk' h1 h2 => ?_) (fun next e => bcase_f (by simp) (by simp [M.slices_Equal_impl_Frame_impl_Frame, e])) fun hne => by simp [M.slices_Equal_impl_Frame_impl_Frame, hne]
  refine bcase_t (by simp; omega) ⟨by omega, by omega, bcase_mk (fun e => h1 (by simpa using e)) fun e => ?_⟩
  rw [up64 hk h]; exact h2 (by simpa using e)
theorem wp.slices_Equal_int_int.math (a b : List Int) (h : M.slices_Equal_int_int_pre a b) : wp.slices_Equal_int_int a b (fun r => r = M.slices_Equal_int_int a b) := by
  unfold wp.slices_Equal_int_int
  refine same_loop h (Q := fun r => r = M.slices_Equal_int_int a b) (fun hl k next hk hk' h1 h2 => ?_) (fun next e => bcase_f (by simp) (by simp [M.slices_Equal_int_int, e])) fun hne => by simp [M.slices_Equal_int_int, hne]
  refine bcase_t (by simp; omega) ⟨by omega, by omega, bcase_mk (fun e => h1 (by simpa using e)) fun e => ?_⟩
  rw [up64 hk h]; exact h2 (by simpa using e)
theorem warp_ne {a b : D.Warp} (h : a.Number ≠ b.Number ∨ a.Frames ≠ b.Frames ∨ a.Regs ≠ b.Regs) : (a == b) = false := by
  refine beq_eq_false_iff_ne.2 ?_
  rintro rfl
  simp at h
theorem warp_eq {a b : D.Warp} (h1 : a.Number = b.Number) (h2 : a.Frames = b.Frames) (h3 : a.Regs = b.Regs) : (a == b) = true := by
  cases a; cases b; simp at *; exact ⟨h1, h2, h3⟩
theorem wp.spec_SameWarp.math (a b : D.Warp) (h : M.spec_SameWarp_pre a b) : wp.spec_SameWarp a b (fun r => r = M.spec_SameWarp a b) := by
  obtain ⟨h1, h2⟩ := h
  unfold wp.spec_SameWarp
  simp only [frameB]
  refine bcase_mk (fun e => ?_) fun e => bcase_mk (fun e2 => ?_) fun e2 => bcase_mk (fun e3 => ?_) fun e3 => ?_
  · exact (warp_ne (.inl (by simpa using e))).symm
  · exact (warp_ne (.inr (.inl (fun h => by rw [h] at e2; simp at e2)))).symm
  · exact (warp_ne (.inr (.inr (fun h => by rw [h] at e3; simp at e3)))).symm
  have e : a.Number = b.Number := by simpa using e
  have hl2 : a.Frames.length = b.Frames.length := by simp at e2; omega
  have hl3 : a.Regs.length = b.Regs.length := by simp at e3; omega
  refine eq_loop h1 hl2 (Q := fun r => r = M.spec_SameWarp a b) (fun k next hk hk' g1 g2 => ?_) (fun next eF => bcase_f (by simp) ?_) fun hne => (warp_ne (.inr (.inl hne))).symm
  · refine bcase_t (by simp; omega) ⟨by omega, by omega, bcase_mk (fun e => g1 (by simpa using e)) fun e => ?_⟩
    rw [up64 hk h1]; exact g2 (by simpa using e)
  · refine eq_loop h2 hl3 (Q := fun r => r = M.spec_SameWarp a b) (fun k next hk hk' g1 g2 => ?_) (fun next eR => bcase_f (by simp) (warp_eq e eF eR).symm) fun hne => (warp_ne (.inr (.inr hne))).symm
    refine bcase_t (by simp; omega) ⟨by omega, by omega, bcase_mk (fun e => g1 (by simpa using e)) fun e => ?_⟩
    rw [up64 hk h2]; exact g2 (by simpa using e)
theorem block_ne {a b : D.Block} (h : a.Code ≠ b.Code ∨ a.Warps ≠ b.Warps ∨ a.Memory ≠ b.Memory ∨ a.Waiting ≠ b.Waiting ∨ a.Phase ≠ b.Phase) : (a == b) = false := by
  refine beq_eq_false_iff_ne.2 ?_
  rintro rfl
  simp at h
theorem block_eq {a b : D.Block} (h1 : a.Code = b.Code) (h2 : a.Warps = b.Warps) (h3 : a.Memory = b.Memory) (h4 : a.Waiting = b.Waiting) (h5 : a.Phase = b.Phase) : (a == b) = true := by
  cases a; cases b; simp at *; exact ⟨h1, h2, h3, h4, h5⟩
theorem wp.spec_SameBlock.math (a b : D.Block) (h : M.spec_SameBlock_pre a b) : wp.spec_SameBlock a b (fun r => r = M.spec_SameBlock a b) := by
  obtain ⟨h1, ⟨h2, hW⟩, h3⟩ := h
  refine ⟨h1, fun r hr => bcase_mk (fun e => ?_) fun e => bcase_mk (fun e2 => ?_) fun e2 => ⟨h3, fun r3 hr3 => bcase_mk (fun e3 => ?_) fun e3 => bcase_mk (fun e4 => ?_) fun e4 => bcase_mk (fun e5 => ?_) fun e5 => ?_⟩⟩
  · exact (block_ne (.inl (by have := nt e hr; simpa [M.spec_SamePrograms] using this))).symm
  · exact (block_ne (.inr (.inl (fun h => by rw [h] at e2; simp at e2)))).symm
  · exact (block_ne (.inr (.inr (.inl (by have := nt e3 hr3; simpa [M.spec_l29Ints] using this))))).symm
  · exact (block_ne (.inr (.inr (.inr (.inl (by simpa using e4)))))).symm
  · exact (block_ne (.inr (.inr (.inr (.inr (by simpa using e5)))))).symm
  have k1 : a.Code = b.Code := by have := nf e hr; simpa [M.spec_SamePrograms] using this
  have k3 : a.Memory = b.Memory := by have := nf e3 hr3; simpa [M.spec_l29Ints] using this
  have hl : a.Warps.length = b.Warps.length := by simp at e2; omega
  refine eq_loop h2 hl (Q := fun r => r = M.spec_SameBlock a b) (fun k next hk hk' g1 g2 => ?_) (fun next eW => bcase_f (by simp) (block_eq k1 eW k3 (by simpa using e4) (by simpa using e5)).symm) fun hne => (block_ne (.inr (.inl hne))).symm
  refine bcase_t (by simp; omega) ⟨by omega, by omega, hW _ (rd_mem hk), fun r hr => bcase_mk (fun e => g1 ?_) fun e => ?_⟩
  · have := nt e hr; simpa [M.spec_SameWarp] using this
  · rw [up64 hk h2]; exact g2 (by have := nf e hr; simpa [M.spec_SameWarp] using this)
theorem two_from (g : D.Warp → D.Warp → Bool) (a b : List D.Warp) (k : Nat) (hk : k < a.length) (hk' : k < b.length) : M.allTwo g (a.drop k) (b.drop k) = (g (rd a (k : Int)) (rd b (k : Int)) && M.allTwo g (a.drop (k + 1)) (b.drop (k + 1))) := by
  rw [List.drop_eq_getElem_cons hk, List.drop_eq_getElem_cons hk', rd_nat hk, rd_nat hk']; rfl
theorem two_len (g : D.Warp → D.Warp → Bool) : ∀ (a b : List D.Warp), a.length ≠ b.length → M.allTwo g a b = false
  | [], [], h => by simp at h
  | [], y :: b, h => rfl
  | x :: a, [], h => rfl
  | x :: a, y :: b, h => by
    simp only [M.allTwo, two_len g a b (by simpa using h), Bool.and_false]
theorem wp.slices_EqualFunc_impl_Warp_impl_Warp_impl_Warp_impl_Warp.math (a b : List D.Warp) (g : D.Warp → D.Warp → Bool) (D : D.Warp → D.Warp → Prop) (h : M.slices_EqualFunc_impl_Warp_impl_Warp_impl_Warp_impl_Warp_pre a b g D) :
    wp.slices_EqualFunc_impl_Warp_impl_Warp_impl_Warp_impl_Warp a b g D (fun r => r = M.slices_EqualFunc_impl_Warp_impl_Warp_impl_Warp_impl_Warp a b g) := by
  obtain ⟨h1, h2⟩ := h
  refine bcase_mk (fun e => ?_) fun e => ?_
  · exact (two_len g a b (by simp at e; omega)).symm
  have hl : a.length = b.length := by simp at e; omega
  refine loop_n a.length (fun k => ((k : Int), ())) (fun k => M.allTwo g a b = M.allTwo g (a.drop k) (b.drop k)) rfl rfl (fun k hk hF next hn => ?_) fun hF next => ?_
  · rw [two_from g a b k hk (by omega)] at hF
    refine bcase_t (by simp; omega) ⟨by omega, by omega, h2 _ (rd_mem hk) _, fun r hr => bcase_mk (fun e => ?_) fun e => ?_⟩
    · show false = M.allTwo g a b
      rw [hF, nt e hr]; rfl
    · rw [up64 hk h1]
      exact hn (by rw [hF, nf e hr]; rfl)
  · refine bcase_f (by simp) ?_
    show true = M.allTwo g a b
    rw [hF, List.drop_length, hl, List.drop_length]; rfl
theorem wp.impl_SameWarp.math (a b : D.Warp) (h : M.impl_SameWarp_pre a b) : wp.impl_SameWarp a b (fun r => r = M.impl_SameWarp a b) := by
  obtain ⟨h1, h2⟩ := h
  refine bcase_mk (fun e => ⟨h1, fun r hr => bcase_mk (fun e2 => ⟨h2, fun r3 hr3 => ?_⟩) fun e2 => ?_⟩) fun e => ?_
  · have e : a.Number = b.Number := by simpa using e
    have e2 : a.Frames = b.Frames := by have := hr.symm.trans e2; simpa [M.slices_Equal_impl_Frame_impl_Frame] using this
    by_cases e3 : a.Regs = b.Regs
    · rw [hr3, show M.impl_SameWarp a b = true from warp_eq e e2 e3]; simp [M.slices_Equal_int_int, e3]
    · rw [hr3, show M.impl_SameWarp a b = false from warp_ne (.inr (.inr e3))]; simp [M.slices_Equal_int_int, e3]
  · have := hr.symm.trans e2
    exact (warp_ne (.inr (.inl (by simpa [M.slices_Equal_impl_Frame_impl_Frame] using this)))).symm
  · exact (warp_ne (.inl (by simpa using e))).symm
theorem two_eq : ∀ (a b : List D.Warp), M.allTwo (fun x y => M.impl_SameWarp x y) a b = (a == b)
  | [], [] => rfl
  | [], y :: b => rfl
  | x :: a, [] => rfl
  | x :: a, y :: b => by
    rw [M.allTwo, two_eq a b]
    show ((x == y) && (a == b)) = _
    rw [Bool.eq_iff_iff]; simp
theorem wp.impl_SameBlock.math (a b : D.Block) (h : M.impl_SameBlock_pre a b) : wp.impl_SameBlock a b (fun r => r = M.impl_SameBlock a b) := by
  obtain ⟨h1, ⟨h2, hW⟩, h3⟩ := h
  refine ⟨h1, fun r hr => bcase_mk (fun e => ⟨⟨h2, fun x hx y => hW x hx⟩, fun r2 hr2 => bcase_mk (fun e2 => ⟨h3, fun r3 hr3 => bcase_mk (fun e3 => bcase_mk (fun e4 => ?_) fun e4 => ?_) fun e3 => ?_⟩) fun e2 => ?_⟩) fun e => ?_⟩
  all_goals try simp only [M.slices_EqualFunc_impl_Warp_impl_Warp_impl_Warp_impl_Warp, two_eq] at hr2
  all_goals try simp only [M.slices_Equal_impl_Ins_impl_Ins] at hr
  all_goals try simp only [M.slices_Equal_int_int] at hr3
  · have k1 : a.Code = b.Code := by have := hr.symm.trans e; simpa using this
    have k2 : a.Warps = b.Warps := by have := hr2.symm.trans e2; simpa using this
    have k3 : a.Memory = b.Memory := by have := hr3.symm.trans e3; simpa using this
    have k4 : a.Waiting = b.Waiting := by simpa using e4
    by_cases k5 : a.Phase = b.Phase
    · rw [show M.impl_SameBlock a b = true from block_eq k1 k2 k3 k4 k5]; simp [k5]
    · rw [show M.impl_SameBlock a b = false from block_ne (.inr (.inr (.inr (.inr k5))))]; simp [k5]
  · exact (block_ne (.inr (.inr (.inr (.inl (by simpa using e4)))))).symm
  · exact (block_ne (.inr (.inr (.inl (by have := hr3.symm.trans e3; simpa using this))))).symm
  · exact (block_ne (.inr (.inl (by have := hr2.symm.trans e2; simpa using this)))).symm
  · exact (block_ne (.inl (by have := hr.symm.trans e; simpa using this))).symm
theorem wp.laws_FnExactSameBlock.math (a b : D.Block) (h : M.laws_FnExactSameBlock_pre a b) : wp.laws_FnExactSameBlock a b (fun r => r = M.laws_FnExactSameBlock a b) := by
  obtain ⟨ha, hb⟩ := h
  have hL : M.Left 1048576 := by unfold M.Left; omega
  refine ⟨⟨hL, ha⟩, fun r hr => bcase_mk (fun _ => rfl) fun e => ?_⟩
  obtain ⟨hs, hl⟩ := sz_small hr e
  have hr2 := (szB_le hL (by rw [← hr]; simpa using e)).1
  rw [← hr] at hr2
  refine ⟨⟨hr2, hb⟩, fun r' hr' => bcase_mk (fun _ => rfl) fun e' => ?_⟩
  have hs' := (szB_le hr2 (by rw [← hr']; simpa using e')).2
  have hl' := small_long hs'
  simp only [M.laws_toBlock, forall_eq, M.spec_SameBlock, M.impl_SameBlock, M.laws_eqBlock, beq_self_eq_true, bne_self_eq_false, Bool.not_true, bcase]
  exact ⟨hs, hs', hl, hs, hs', hl, hs, hl, hs', hl', rfl⟩
end Go.V
