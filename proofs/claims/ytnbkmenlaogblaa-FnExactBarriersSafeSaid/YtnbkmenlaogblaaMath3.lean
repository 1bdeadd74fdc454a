import Derived.Test.YtnbkmenlaogblaaWp3
set_option linter.unusedVariables false
set_option linter.unusedSimpArgs false
namespace Go.V
theorem isWord_iff {x : Int} : M.isWord x = true ↔ 0 ≤ x ∧ x ≤ 65535 := by simp [M.isWord, M.isIn]
theorem isLane_iff {x : Int} : M.isLane x = true ↔ 0 ≤ x ∧ x ≤ 7 := by simp [M.isLane, M.isIn]
theorem rd_mem {α : Type} [Inhabited α] {xs : List α} {k : Nat} (h : k < xs.length) : rd xs (k : Int) ∈ xs := by rw [rd_nat h]; exact List.getElem_mem h
theorem nt {r x : Bool} (e : (!r) = true) (h : r = x) : x = false := by subst h; simpa using e
theorem nf {r x : Bool} (e : (!r) = false) (h : r = x) : x = true := by subst h; simpa using e
theorem wp.spec_ValuesOk.math (l : List Int) : wp.spec_ValuesOk l (fun r => r = M.spec_ValuesOk l) := by
  unfold wp.spec_ValuesOk
  refine bcase_mk (fun e => ?_) fun e => ?_
  · have hl : l.length = 8 := by simp at e; omega
    refine ⟨by unfold M.spec_AreWords_pre; omega, fun r hr => ?_⟩
    rw [hr]; simp [M.spec_ValuesOk, M.spec_AreWords, hl]
  · have hl : ¬ l.length = 8 := by simp at e; omega
    simp [M.spec_ValuesOk, hl]
theorem mask_loop {l : List Int} (hl : M.Long l) {B : (Int × Int × Unit) → ((Int × Int × Unit) → Prop) → Prop} {Q : Int × Bool → Prop} (hQ : Q (M.maskOf l))
    (hb : ∀ (k : Nat) (m : Int) (next : (Int × Int × Unit) → Prop), k < l.length → (M.isLane (rd l (k : Int)) = false → Q (0, false)) →
      (M.isLane (rd l (k : Int)) = true → next (bitOr .i64 m (IntKind.wrap .i64 (1 * 2 ^ (min (rd l (k : Int)).toNat (IntKind.bits .i64)))), ((k + 1 : Nat) : Int), ())) → B (m, (k : Int), ()) next)
    (he : ∀ (m : Int) (next : (Int × Int × Unit) → Prop), Q (m, true) → B (m, (l.length : Int), ()) next) : LoopP B (0, 0, ()) := by
  refine loop_n l.length (fun k => ((l.take k).foldl (fun m x => bitOr .i64 m (IntKind.wrap .i64 (1 * 2 ^ (min x.toNat (IntKind.bits .i64))))) 0, (k : Int), ())) (fun k => (l.take k).all M.isLane = true) (by simp) (by simp) (fun k hk hF next hn => ?_) fun hF next => ?_
  · refine hb k _ next hk (fun e => ?_) fun e => ?_
    · rw [rd_nat hk] at e
      have : M.maskOf l = (0, false) := by simp only [M.maskOf]; rw [if_neg (by rw [all_at hk e]; simp)]
      rw [← this]; exact hQ
    · rw [rd_nat hk] at e ⊢
      have := hn (take_all_succ hk hF e)
      rw [List.take_add_one, List.getElem?_eq_getElem hk, Option.toList_some, List.foldl_append] at this
      exact this
  · refine he _ next ?_
    rw [List.take_length] at hF ⊢
    have : M.maskOf l = (l.foldl (fun m x => bitOr .i64 m (IntKind.wrap .i64 (1 * 2 ^ (min x.toNat (IntKind.bits .i64))))) 0, true) := by simp only [M.maskOf]; rw [if_pos hF]
    rw [← this]; exact hQ
theorem wp.spec_MaskOf.math (l : List Int) (h : M.spec_MaskOf_pre l) : wp.spec_MaskOf l (fun r => r = M.spec_MaskOf l) := by
  unfold wp.spec_MaskOf
  refine mask_loop h (Q := fun r => r = M.maskOf l) rfl (fun k m next hk h1 h2 => ?_) fun m next hq => ?_
  · refine bcase_t (by simp; omega) ⟨by omega, fun r hr => bcase_mk (fun e => ?_) fun e => ⟨by omega, ?_, ?_⟩⟩
    · exact h1 (nt e hr)
    · have : M.isLane (rd l (k : Int)) = true := nf e hr
      exact (isLane_iff.1 this).1
    · rw [up64 hk h]; exact h2 (nf e hr)
  · exact bcase_f (by simp) hq
theorem wp.impl_MaskOf.math (l : List Int) (h : M.impl_MaskOf_pre l) : wp.impl_MaskOf l (fun r => r = M.impl_MaskOf l) := by
  unfold wp.impl_MaskOf
  refine mask_loop h (Q := fun r => r = M.maskOf l) rfl (fun k m next hk h1 h2 => ?_) fun m next hq => ?_
  · refine bcase_t (by simp; omega) ⟨by omega, fun r hr => bcase_mk (fun e => ?_) fun e => ⟨?_, ?_⟩⟩
    · exact h1 (nt e hr)
    · have : M.isLane (rd l (k : Int)) = true := nf e hr
      exact (isLane_iff.1 this).1
    · rw [up64 hk h]; exact h2 (nf e hr)
  · exact bcase_f (by simp) hq
theorem wp.spec_IsPermutation.math (l : List Int) (h : M.spec_IsPermutation_pre l) : wp.spec_IsPermutation l (fun r => r = M.spec_IsPermutation l) := by
  refine ⟨h, fun r hr => ?_⟩
  subst hr
  simp only [M.spec_IsPermutation, M.isPerm, M.spec_MaskOf]
  refine bcase_mk (fun e1 => bcase_mk (fun e2 => ?_) fun e2 => ?_) fun e1 => ?_
  · have hl : l.length = 8 := by simp at e2; omega
    simp [e1, hl]
  · have hl : ¬ l.length = 8 := by simp at e2; omega
    simp [hl]
  · simp [e1]
theorem wp.impl_IsPermutation.math (l : List Int) (h : M.impl_IsPermutation_pre l) : wp.impl_IsPermutation l (fun r => r = M.impl_IsPermutation l) := wp.spec_IsPermutation.math l h
theorem bitAnd_mod (x : Int) : bitAnd .i64 x 65535 = x % 65536 := by
  unfold bitAnd
  have e1 : (BitVec.ofInt (IntKind.bits .i64) x &&& BitVec.ofInt (IntKind.bits .i64) 65535).toNat = (x % 65536).toNat := by
    show (BitVec.ofInt 64 x &&& BitVec.ofInt 64 65535).toNat = _
    rw [BitVec.toNat_and, BitVec.toNat_ofInt, show (BitVec.ofInt 64 65535).toNat = 2 ^ 16 - 1 from rfl, Nat.and_two_pow_sub_one_eq_mod]
    rw [show ((2 ^ 64 : Nat) : Int) = 18446744073709551616 from rfl]
    omega
  rw [e1, w64 (by omega) (by omega)]
  omega
theorem wp.impl_WrapWord.math (x : Int) : wp.impl_WrapWord x (fun r => r = M.impl_WrapWord x) := bitAnd_mod x
theorem wp.spec_WrapWord.math (x : Int) : wp.spec_WrapWord x (fun r => r = M.spec_WrapWord x) := by
  show Int.tmod (IntKind.wrap .i64 (Int.tmod x 65536 + 65536)) 65536 = x % 65536
  have h1 : Int.tmod x 65536 < 65536 := Int.tmod_lt_of_pos x (by omega)
  have h2 : -65536 < Int.tmod x 65536 := by
    have := Int.tmod_lt_of_pos (-x) (b := 65536) (by omega)
    rw [Int.neg_tmod] at this; omega
  rw [w64 (by omega) (by omega), Int.tmod_eq_emod_of_nonneg (by omega)]
  have h3 : x = 65536 * Int.tdiv x 65536 + Int.tmod x 65536 := (Int.mul_tdiv_add_tmod x 65536).symm
  omega
theorem wp.spec_AddWords.math (a b : Int) : wp.spec_AddWords a b (fun r => r = M.spec_AddWords a b) := by
  intro r1 h1
  refine bcase_mk (fun e1 => ?_) fun e1 r2 h2 => bcase_mk (fun e2 => ?_) fun e2 r3 h3 => ?_
  · have : M.isWord a = false := nt e1 h1
    simp [M.spec_AddWords, M.addW, this]
  · have : M.isWord b = false := nt e2 h2
    simp [M.spec_AddWords, M.addW, this]
  · have ha : M.isWord a = true := nf e1 h1
    have hb : M.isWord b = true := nf e2 h2
    have := isWord_iff.1 ha
    have := isWord_iff.1 hb
    rw [h3, w64 (by omega) (by omega)]
    simp [M.spec_AddWords, M.addW, M.spec_WrapWord, ha, hb]
theorem wp.impl_wrapped.math (a b n : Int) : wp.impl_wrapped a b n (fun r => r = M.impl_wrapped a b n) := by
  intro r1 h1
  refine bcase_mk (fun e1 => ?_) fun e1 r2 h2 => bcase_mk (fun e2 => ?_) fun e2 r3 h3 => ?_
  · have : M.isWord a = false := nt e1 h1
    simp [M.impl_wrapped, this]
  · have : M.isWord b = false := nt e2 h2
    simp [M.impl_wrapped, this]
  · have ha : M.isWord a = true := nf e1 h1
    have hb : M.isWord b = true := nf e2 h2
    rw [h3]
    simp [M.impl_wrapped, M.impl_WrapWord, ha, hb]
theorem wp.impl_AddWords.math (a b : Int) : wp.impl_AddWords a b (fun r => r = M.impl_AddWords a b) := by
  intro r hr
  rw [hr]
  simp only [M.impl_wrapped, M.impl_AddWords, M.addW]
  by_cases h : (M.isWord a && M.isWord b) = true
  · rw [if_pos h, if_pos h]
    simp only [Bool.and_eq_true, isWord_iff] at h
    rw [w64 (by omega) (by omega)]
  · rw [if_neg h, if_neg h]
theorem aio_snoc (v : List Int) : ∀ (l : List Int) (o x : Int) (out : List Int), M.aio v (l ++ [o]) x out = ((M.aio v l x out).1.set o.toNat (M.aio v l x out).2, M.addW (M.aio v l x out).2 (rd v o))
  | [], o, x, out => rfl
  | p :: l, o, x, out => by simp only [List.cons_append, M.aio]; exact aio_snoc v l o _ _
theorem aio_len (v : List Int) : ∀ (l : List Int) (x : Int) (out : List Int), (M.aio v l x out).1.length = out.length
  | [], x, out => rfl
  | p :: l, x, out => by simp only [M.aio]; rw [aio_len v l]; simp
theorem isPerm_len {l : List Int} (h : M.isPerm l = true) : l.length = 8 ∧ ∀ x ∈ l, 0 ≤ x ∧ x ≤ 7 := by
  simp only [M.isPerm, Bool.and_eq_true, beq_iff_eq] at h
  refine ⟨h.2.1, fun x hx => ?_⟩
  have h1 := h.1
  simp only [M.maskOf] at h1
  by_cases hl : l.all M.isLane = true
  · exact isLane_iff.1 (List.all_eq_true.1 hl x hx)
  · rw [if_neg hl] at h1; cases h1
theorem valuesOk_iff {l : List Int} : M.spec_ValuesOk l = true ↔ l.length = 8 ∧ ∀ x ∈ l, 0 ≤ x ∧ x ≤ 65535 := by
  simp only [M.spec_ValuesOk, Bool.and_eq_true, beq_iff_eq, List.all_eq_true, isWord_iff]
theorem aio_loop {x : Int} {v l : List Int} (hv : M.spec_ValuesOk v = true) (hp : M.isPerm l = true) {B : (Int × Int × List Int × Unit) → ((Int × Int × List Int × Unit) → Prop) → Prop}
    (hb : ∀ (k : Nat) (y : Int) (out : List Int) (next : (Int × Int × List Int × Unit) → Prop), k < 8 → l.length = 8 → v.length = 8 → out.length = 8 → 0 ≤ rd l (k : Int) → rd l (k : Int) ≤ 7 → next (M.addW y (rd v (rd l (k : Int))), ((k + 1 : Nat) : Int), out.set (rd l (k : Int)).toNat y, ()) → B (y, (k : Int), out, ()) next)
    (he : ∀ next, B ((M.aio v l x [0, 0, 0, 0, 0, 0, 0, 0]).2, 8, (M.aio v l x [0, 0, 0, 0, 0, 0, 0, 0]).1, ()) next) : LoopP B (x, 0, List.replicate ((8 : Int).toNat) (default : Int), ()) := by
  obtain ⟨hl, hr⟩ := isPerm_len hp
  obtain ⟨hvl, hvr⟩ := valuesOk_iff.1 hv
  refine loop_n 8 (fun k => ((M.aio v (l.take k) x [0, 0, 0, 0, 0, 0, 0, 0]).2, (k : Int), (M.aio v (l.take k) x [0, 0, 0, 0, 0, 0, 0, 0]).1, ())) (fun _ => True) rfl trivial (fun k hk _ next hn => ?_) fun _ next => ?_
  · have hk' : k < l.length := by omega
    have h1 := hr _ (rd_mem hk')
    refine hb k _ _ next hk hl hvl (aio_len v _ _ _) h1.1 h1.2 ?_
    have := hn trivial
    rw [List.take_add_one, List.getElem?_eq_getElem hk'] at this
    simp only [Option.toList_some, aio_snoc] at this
    rw [rd_nat hk']
    exact this
  · have := he next
    rw [List.take_of_length_le (by omega)]
    exact this
theorem wp.spec_AddInOrder.math (x : Int) (v l : List Int) (h : M.spec_AddInOrder_pre x v l) : wp.spec_AddInOrder x v l (fun r => r = M.spec_AddInOrder x v l) := by
  intro r1 h1
  refine bcase_mk (fun e1 => ?_) fun e1 r2 h2 => bcase_mk (fun e2 => ?_) fun e2 => ⟨h, fun r3 h3 => bcase_mk (fun e3 => ?_) fun e3 => ⟨by omega, ?_⟩⟩
  · have : M.isWord x = false := nt e1 h1
    simp [M.spec_AddInOrder, M.addInOrder, this]
  · have : M.spec_ValuesOk v = false := nt e2 h2
    simp [M.spec_AddInOrder, M.addInOrder, this]
  · have : M.isPerm l = false := nt e3 h3
    simp [M.spec_AddInOrder, M.addInOrder, this]
  · have hx : M.isWord x = true := nf e1 h1
    have hv : M.spec_ValuesOk v = true := nf e2 h2
    have hp : M.isPerm l = true := nf e3 h3
    refine aio_loop hv hp (fun k y out next hk hl hvl ho g1 g2 hn => ?_) fun next => ?_
    · refine bcase_t (by simp; omega) ⟨by omega, by omega, by omega, by omega, fun r hr => ?_⟩
      subst hr
      rw [up64 hk (by omega)]; exact hn
    · exact bcase_f (by simp) (by simp [M.spec_AddInOrder, M.addInOrder, hx, hv, hp])
theorem wp.impl_AddInOrder.math (x : Int) (v l : List Int) (h : M.impl_AddInOrder_pre x v l) : wp.impl_AddInOrder x v l (fun r => r = M.impl_AddInOrder x v l) := by
  intro r1 h1
  refine bcase_mk (fun e1 => ?_) fun e1 r2 h2 => bcase_mk (fun e2 => ?_) fun e2 => ⟨h, fun r3 h3 => bcase_mk (fun e3 => ?_) fun e3 => ⟨by omega, ?_⟩⟩
  · have : M.isWord x = false := nt e1 h1
    simp [M.impl_AddInOrder, M.addInOrder, this]
  · have : M.spec_ValuesOk v = false := nt e2 h2
    simp [M.impl_AddInOrder, M.addInOrder, this]
  · have : M.isPerm l = false := nt e3 h3
    simp [M.impl_AddInOrder, M.addInOrder, this]
  · have hx : M.isWord x = true := nf e1 h1
    have hv : M.spec_ValuesOk v = true := nf e2 h2
    have hp : M.isPerm l = true := nf e3 h3
    refine aio_loop hv hp (fun k y out next hk hl hvl ho g1 g2 hn => ?_) fun next => ?_
    · refine bcase_t (by simp; omega) ⟨by omega, by omega, by omega, fun r hr => ?_⟩
      subst hr
      rw [up64 hk (by omega)]; exact hn
    · exact bcase_f (by simp [(isPerm_len hp).1]) (by simp [M.impl_AddInOrder, M.addInOrder, hx, hv, hp])
theorem firstIx_from {α : Type} [Inhabited α] (g : α → Bool) (l : List α) : ∀ (k : Nat), k < l.length → M.firstIx g (l.drop k) k = if g (rd l (k : Int)) then (k : Int) else M.firstIx g (l.drop (k + 1)) (k + 1) := by
  intro k hk
  rw [List.drop_eq_getElem_cons hk, rd_nat hk]; rfl
theorem wp.slices_IndexFunc_int_int.math (l : List Int) (g : Int → Bool) (D : Int → Prop) (h : M.slices_IndexFunc_int_int_pre l g D) : wp.slices_IndexFunc_int_int l g D (fun r => r = M.slices_IndexFunc_int_int l g) := by
  unfold wp.slices_IndexFunc_int_int
  obtain ⟨h1, h2⟩ := h
  refine loop_n l.length (fun k => ((k : Int), ())) (fun k => M.slices_IndexFunc_int_int l g = M.firstIx g (l.drop k) k) rfl (by simp [M.slices_IndexFunc_int_int]) (fun k hk hF next hn => ?_) fun hF next => ?_
  · rw [firstIx_from g l k hk] at hF
    refine bcase_t (by simp; omega) ⟨by omega, h2 _ (rd_mem hk), fun r hr => bcase_mk (fun e => ?_) fun e => ?_⟩
    · rw [hF, if_pos (by rw [← hr]; exact e)]
    · rw [up64 hk h1]
      exact hn (by rw [hF, if_neg (by rw [← hr, e]; simp)])
  · refine bcase_f (by simp) ?_
    rw [hF]; simp [M.firstIx]
theorem firstIx_nonneg {α : Type} (g : α → Bool) : ∀ (l : List α) (k : Nat), decide (M.firstIx g l k ≥ 0) = l.any g
  | [], k => by simp [M.firstIx]
  | x :: l, k => by
    simp only [M.firstIx, List.any_cons]
    by_cases hx : g x = true
    · simp [hx]
    · simp only [hx, Bool.false_eq_true, if_false, Bool.false_or]; simpa [hx] using firstIx_nonneg g l (k + 1)
theorem wp.slices_ContainsFunc_int_int.math (l : List Int) (g : Int → Bool) (D : Int → Prop) (h : M.slices_ContainsFunc_int_int_pre l g D) : wp.slices_ContainsFunc_int_int l g D (fun r => r = M.slices_ContainsFunc_int_int l g) :=
  ⟨h, fun r hr => by rw [hr]; exact firstIx_nonneg g l 0⟩
theorem wp.impl_AreWords_1.math (x : Int) : wp.impl_AreWords_1 x (fun r => r = M.impl_AreWords_1 x) := fun r hr => by rw [hr]; rfl
theorem wp.impl_AreWords.math (l : List Int) (h : M.impl_AreWords_pre l) : wp.impl_AreWords l (fun r => r = M.impl_AreWords l) := by
  refine ⟨⟨h, fun _ _ => trivial⟩, fun r hr => ?_⟩
  rw [hr]
  simp only [M.slices_ContainsFunc_int_int, M.impl_AreWords, M.impl_AreWords_1]
  rw [← List.all_eq_not_any_not]
theorem wp.impl_ValuesOk.math (l : List Int) : wp.impl_ValuesOk l (fun r => r = M.impl_ValuesOk l) := wp.spec_ValuesOk.math l
theorem wp.spec_l21Op.math (x : Int) : wp.spec_l21Op x (fun r => r = M.spec_l21Op x) := fun r hr => hr
theorem wp.spec_Combine.math (o a b : Int) : wp.spec_Combine o a b (fun r => r = M.spec_Combine o a b) := by
  intro r1 h1
  refine bcase_mk (fun e1 => ?_) fun e1 r2 h2 => bcase_mk (fun e2 => ?_) fun e2 => ?_
  · have : M.isWord a = false := nt e1 h1
    simp [M.spec_Combine, this]
  · have : M.isWord b = false := nt e2 h2
    simp [M.spec_Combine, this]
  · have ha : M.isWord a = true := nf e1 h1
    have hb : M.isWord b = true := nf e2 h2
    refine bcase_mk (fun e r hr => ?_) fun f1 => bcase_mk (fun e => ?_) fun f2 => bcase_mk (fun e => ?_) fun f3 => bcase_mk (fun e => ?_) fun f4 => ?_ <;> simp_all [M.spec_Combine, M.spec_AddWords]
theorem rounds8 {α : Type} (f : Nat → α) {k : Nat} (hk : k < 8) : (List.range (k + 1)).map f = (List.range k).map f ++ [f k] := by simp [List.range_succ]
theorem wp.spec_ScanRound.math (o : Int) (l : List Int) (d : Int) : wp.spec_ScanRound o l d (fun r => r = M.spec_ScanRound o l d) := by
  intro r1 h1
  refine bcase_mk (fun e1 => ?_) fun e1 r2 h2 => bcase_mk (fun e2 => ?_) fun e2 r3 h3 => bcase_mk (fun e3 => ?_) fun e3 => ?_
  · have : M.spec_ValuesOk l = false := nt e1 h1
    simp [M.spec_ScanRound, this]
  · have : M.spec_l21Op o = false := nt e2 h2
    simp [M.spec_ScanRound, this]
  · have : M.isIn d 1 7 = false := nt e3 h3
    simp [M.spec_ScanRound, this]
  · have ha : M.spec_ValuesOk l = true := nf e1 h1
    have hb : M.spec_l21Op o = true := nf e2 h2
    have hc : M.isIn d 1 7 = true := nf e3 h3
    have hd : 1 ≤ d ∧ d ≤ 7 := by simpa [M.isIn] using hc
    obtain ⟨hl, _⟩ := valuesOk_iff.1 ha
    let f : Nat → Int := fun i => if d ≤ (i : Int) then M.spec_Combine o (rd l ((i : Int) - d)) (rd l (i : Int)) else rd l (i : Int)
    have hM : M.spec_ScanRound o l d = (List.range 8).map f := by simp [M.spec_ScanRound, ha, hb, hc, f]
    rw [hM]
    refine loop_n 8 (fun k => ((List.range k).map f, (k : Int), ())) (fun _ => True) rfl trivial (fun k hk _ next hn => ?_) fun _ next => bcase_f (by simp) rfl
    have hn := hn trivial
    rw [rounds8 f hk] at hn
    refine bcase_t (by simp; omega) ⟨by omega, bcase_mk (fun e => ?_) fun e => ?_⟩
    · have hdk : d ≤ (k : Int) := by simpa using e
      rw [w64 (by omega) (by omega)]
      refine ⟨by omega, fun r hr => ⟨by simp; omega, ?_⟩⟩
      rw [up64 hk (by omega), hr]
      simpa [f, hdk] using hn
    · have hdk : ¬ d ≤ (k : Int) := by simpa using e
      refine ⟨by simp; omega, ?_⟩
      rw [up64 hk (by omega)]
      simpa [f, hdk] using hn
theorem wp.spec_ScanAll.math (o : Int) (l : List Int) : wp.spec_ScanAll o l (fun r => r = M.spec_ScanAll o l) := by
  intro r1 h1 r2 h2 r3 h3
  subst h1 h2 h3; rfl
theorem wp.spec_NeutralOf.math (o : Int) : wp.spec_NeutralOf o (fun r => r = M.spec_NeutralOf o) := by
  intro r1 h1
  refine bcase_mk (fun e1 => ?_) fun e1 => bcase_mk (fun e2 => ?_) fun e2 => ?_
  · have : M.isIn o 0 3 = false := nt e1 h1
    simp [M.spec_NeutralOf, this]
  all_goals
    have : M.isIn o 0 3 = true := nf e1 h1
    simp at e2; simp_all [M.spec_NeutralOf]
theorem scanRound_len (o : Int) (l : List Int) (d : Int) : (M.spec_ScanRound o l d).length = 8 ∨ (M.spec_ScanRound o l d).length = 0 := by
  unfold M.spec_ScanRound; split <;> simp
theorem wp.spec_ScanBefore.math (o : Int) (l : List Int) : wp.spec_ScanBefore o l (fun r => r = M.spec_ScanBefore o l) := by
  intro r1 h1
  subst h1
  have hl := scanRound_len o (M.spec_ScanRound o (M.spec_ScanRound o l 1) 2) 4
  change (M.spec_ScanAll o l).length = 8 ∨ (M.spec_ScanAll o l).length = 0 at hl
  refine bcase_mk (fun e => ?_) fun e => ⟨?_, fun r hr => ⟨?_, ?_⟩⟩
  · have : (M.spec_ScanAll o l).length = 0 := by simpa using e
    simp [M.spec_ScanBefore, this]
  · simp at e
    have : ¬ (M.spec_ScanAll o l).length = 0 := by simpa using e
    omega
  · simp; omega
  · have : ¬ (M.spec_ScanAll o l).length = 0 := by simpa using e
    rw [hr]
    simp only [M.spec_ScanBefore, this, if_false]; rfl
theorem wp.spec_IsMask.math (x : Int) : wp.spec_IsMask x (fun r => r = M.spec_IsMask x) := fun r hr => hr
theorem wp.spec_HasLane.math (m l : Int) : wp.spec_HasLane m l (fun r => r = M.spec_HasLane m l) := by
  intro r1 h1
  refine bcase_mk (fun e1 r2 h2 => bcase_mk (fun e2 => ?_) fun e2 => ?_) fun e1 => ?_
  · have : M.isLane l = true := by rw [← e2, h2]; rfl
    have h0 : 0 ≤ l := (isLane_iff.1 this).1
    refine ⟨h0, ?_⟩
    have e1' : M.isMask m = true := by rw [← e1, h1]; rfl
    simp [M.spec_HasLane, M.hasLane, e1', this]
  · have : M.isLane l = false := by rw [← e2, h2]; rfl
    simp [M.spec_HasLane, M.hasLane, this]
  · have : M.isMask m = false := by rw [← e1, h1]; rfl
    simp [M.spec_HasLane, M.hasLane, this]
theorem wp.spec_ReduceMasked.math (o : Int) (l : List Int) (m : Int) : wp.spec_ReduceMasked o l m (fun r => r = M.spec_ReduceMasked o l m) := by
  intro r1 h1
  refine bcase_mk (fun e1 => ?_) fun e1 r2 h2 => bcase_mk (fun e2 => ?_) fun e2 r3 h3 => bcase_mk (fun e3 => ?_) fun e3 r4 h4 => ?_
  · have : M.spec_ValuesOk l = false := nt e1 h1
    simp [M.spec_ReduceMasked, this]
  · have : M.isMask m = false := nt e2 h2
    simp [M.spec_ReduceMasked, this]
  · have : M.spec_l21Op o = false := nt e3 h3
    simp [M.spec_ReduceMasked, this]
  · have ha : M.spec_ValuesOk l = true := nf e1 h1
    have hb : M.isMask m = true := nf e2 h2
    have hc : M.spec_l21Op o = true := nf e3 h3
    obtain ⟨hl, _⟩ := valuesOk_iff.1 ha
    let f : Int → Nat → Int := fun x i => if M.hasLane m (i : Int) then M.spec_Combine o x (rd l (i : Int)) else x
    have hM : M.spec_ReduceMasked o l m = (List.range 8).foldl f (M.spec_NeutralOf o) := by simp [M.spec_ReduceMasked, ha, hb, hc, f]
    rw [hM]
    refine loop_n 8 (fun k => ((List.range k).foldl f (M.spec_NeutralOf o), (k : Int), ())) (fun _ => True) (by rw [h4]; rfl) trivial (fun k hk _ next hn => ?_) fun _ next => bcase_f (by simp) rfl
    have hn := hn trivial
    rw [List.range_succ, List.foldl_append] at hn
    refine bcase_t (by simp; omega) fun r hr => bcase_mk (fun e => ⟨by omega, fun r2 hr2 => ?_⟩) fun e => ?_
    · rw [up64 hk (by omega), hr2]
      have e' : M.hasLane m (k : Int) = true := by rw [← e, hr]; rfl
      simpa [f, e'] using hn
    · rw [up64 hk (by omega)]
      have e' : M.hasLane m (k : Int) = false := by rw [← e, hr]; rfl
      simpa [f, e'] using hn
theorem scanRound_words {l : List Int} {d : Int} (h : M.spec_ValuesOk l = true) (hd : M.isIn d 1 7 = true) : M.spec_ValuesOk (M.spec_ScanRound 0 l d) = true := by
  obtain ⟨h1, h2⟩ := valuesOk_iff.1 h
  have hin : ∀ (i : Int), 0 ≤ i → i < 8 → 0 ≤ rd l i ∧ rd l i ≤ 65535 := by
    intro i g1 g2
    obtain ⟨k, rfl⟩ := Int.eq_ofNat_of_zero_le g1
    exact h2 _ (rd_mem (by omega))
  have hd' : 1 ≤ d ∧ d ≤ 7 := by simpa [M.isIn] using hd
  rw [valuesOk_iff]
  have : M.spec_l21Op 0 = true := rfl
  simp only [M.spec_ScanRound, h, hd, this, Bool.and_self, if_true]
  refine ⟨by simp, fun x hx => ?_⟩
  simp only [List.mem_map, List.mem_range] at hx
  obtain ⟨i, hi, rfl⟩ := hx
  split
  · rename_i hdi
    have g1 := hin ((i : Int) - d) (by omega) (by omega)
    have g2 := hin (i : Int) (by omega) (by omega)
    have w1 := isWord_iff.2 g1
    have w2 := isWord_iff.2 g2
    simp only [M.spec_Combine, M.addW, w1, w2, Bool.and_self, if_true]
    omega
  · exact hin _ (by omega) (by omega)
theorem scanBefore_len {l : List Int} (h : M.spec_ValuesOk l = true) : (M.spec_ScanBefore 0 l).length = 8 := by
  have h1 := scanRound_words h (d := 1) rfl
  have h2 := scanRound_words h1 (d := 2) rfl
  have h3 := scanRound_words h2 (d := 4) rfl
  have h4 : (M.spec_ScanAll 0 l).length = 8 := (valuesOk_iff.1 h3).1
  simp [M.spec_ScanBefore, h4]
theorem wp.spec_AddTogether.math (x : Int) (l : List Int) : wp.spec_AddTogether x l (fun r => r = M.spec_AddTogether x l) := by
  intro r1 h1
  refine bcase_mk (fun e1 => ?_) fun e1 r2 h2 => bcase_mk (fun e2 => ?_) fun e2 r3 h3 => ?_
  · have : M.isWord x = false := nt e1 h1
    simp [M.spec_AddTogether, this]
  · have : M.spec_ValuesOk l = false := nt e2 h2
    simp [M.spec_AddTogether, this]
  · have ha : M.isWord x = true := nf e1 h1
    have hb : M.spec_ValuesOk l = true := nf e2 h2
    have hl := scanBefore_len hb
    rw [← h3] at hl
    let f : Nat → Int := fun i => M.addW x (rd r3 (i : Int))
    have hM : M.spec_AddTogether x l = ((List.range 8).map f, M.addW x (M.spec_ReduceMasked 0 l 255), true) := by simp [M.spec_AddTogether, ha, hb, f, h3]
    rw [hM]
    refine loop_n 8 (fun k => ((List.range k).map f, (k : Int), ())) (fun _ => True) rfl trivial (fun k hk _ next hn => ?_) fun _ next => ?_
    · have hn := hn trivial
      rw [rounds8 f hk] at hn
      refine bcase_t (by simp; omega) ⟨by omega, fun r hr => ⟨by simp; omega, ?_⟩⟩
      rw [up64 hk (by omega), hr]
      simpa [f, M.spec_AddWords] using hn
    · refine bcase_f (by simp) fun r hr r' hr' => ?_
      rw [hr', hr]; rfl
theorem wp.impl_ascending.math : wp.impl_ascending (fun r => r = M.impl_ascending) := fun r hr => hr
theorem wp.impl_AddTogether.math (x : Int) (l : List Int) : wp.impl_AddTogether x l (fun r => r = M.impl_AddTogether x l) := by
  intro r1 h1
  refine ⟨?_, fun r hr => ?_⟩
  · unfold M.impl_AddInOrder_pre M.Long
    rw [h1]
    have := List.length_filter_le (M.hasLane 255) [0, 1, 2, 3, 4, 5, 6, 7]
    simp only [M.impl_ascending, M.lanesOf]; simp at this; omega
  · rw [hr, h1]; rfl
theorem isWord_mod (x : Int) : M.isWord (x % 65536) = true := isWord_iff.2 ⟨by omega, by omega⟩
theorem comb0 {p q : Int} (hp : M.isWord p = true) (hq : M.isWord q = true) : M.spec_Combine 0 p q = (p + q) % 65536 := by simp [M.spec_Combine, M.addW, hp, hq]
theorem addW_eq {p q : Int} (hp : M.isWord p = true) (hq : M.isWord q = true) : M.addW p q = (p + q) % 65536 := by simp [M.addW, hp, hq]
theorem range8 : List.range 8 = [0, 1, 2, 3, 4, 5, 6, 7] := rfl
theorem ok8 {a b c d e f g h : Int} (ha : M.isWord a = true) (hb : M.isWord b = true) (hc : M.isWord c = true) (hd : M.isWord d = true) (he : M.isWord e = true) (hf : M.isWord f = true) (hg : M.isWord g = true) (hh : M.isWord h = true) :
    M.spec_ValuesOk [a, b, c, d, e, f, g, h] = true := by simp [M.spec_ValuesOk, *]
theorem scan_1 {a b c d e f g h : Int} (ha : M.isWord a = true) (hb : M.isWord b = true) (hc : M.isWord c = true) (hd : M.isWord d = true) (he : M.isWord e = true) (hf : M.isWord f = true) (hg : M.isWord g = true) (hh : M.isWord h = true) :
    M.spec_ScanRound 0 [a, b, c, d, e, f, g, h] 1 = [a, (a + b) % 65536, (b + c) % 65536, (c + d) % 65536, (d + e) % 65536, (e + f) % 65536, (f + g) % 65536, (g + h) % 65536] := by
  have ok := ok8 ha hb hc hd he hf hg hh
  have i1 : M.isIn 1 1 7 = true := rfl
  have i2 : M.spec_l21Op 0 = true := rfl
  simp only [M.spec_ScanRound, ok, i1, i2, range8, Bool.and_self, if_true, List.map_cons, List.map_nil]
  show [a, M.spec_Combine 0 a b, M.spec_Combine 0 b c, M.spec_Combine 0 c d, M.spec_Combine 0 d e, M.spec_Combine 0 e f, M.spec_Combine 0 f g, M.spec_Combine 0 g h] = _
  rw [comb0 ha hb, comb0 hb hc, comb0 hc hd, comb0 hd he, comb0 he hf, comb0 hf hg, comb0 hg hh]
theorem scan_2 {a b c d e f g h : Int} (ha : M.isWord a = true) (hb : M.isWord b = true) (hc : M.isWord c = true) (hd : M.isWord d = true) (he : M.isWord e = true) (hf : M.isWord f = true) (hg : M.isWord g = true) (hh : M.isWord h = true) :
    M.spec_ScanRound 0 [a, b, c, d, e, f, g, h] 2 = [a, b, (a + c) % 65536, (b + d) % 65536, (c + e) % 65536, (d + f) % 65536, (e + g) % 65536, (f + h) % 65536] := by
  have ok := ok8 ha hb hc hd he hf hg hh
  have i1 : M.isIn 2 1 7 = true := rfl
  have i2 : M.spec_l21Op 0 = true := rfl
  simp only [M.spec_ScanRound, ok, i1, i2, range8, Bool.and_self, if_true, List.map_cons, List.map_nil]
  show [a, b, M.spec_Combine 0 a c, M.spec_Combine 0 b d, M.spec_Combine 0 c e, M.spec_Combine 0 d f, M.spec_Combine 0 e g, M.spec_Combine 0 f h] = _
  rw [comb0 ha hc, comb0 hb hd, comb0 hc he, comb0 hd hf, comb0 he hg, comb0 hf hh]
theorem scan_4 {a b c d e f g h : Int} (ha : M.isWord a = true) (hb : M.isWord b = true) (hc : M.isWord c = true) (hd : M.isWord d = true) (he : M.isWord e = true) (hf : M.isWord f = true) (hg : M.isWord g = true) (hh : M.isWord h = true) :
    M.spec_ScanRound 0 [a, b, c, d, e, f, g, h] 4 = [a, b, c, d, (a + e) % 65536, (b + f) % 65536, (c + g) % 65536, (d + h) % 65536] := by
  have ok := ok8 ha hb hc hd he hf hg hh
  have i1 : M.isIn 4 1 7 = true := rfl
  have i2 : M.spec_l21Op 0 = true := rfl
  simp only [M.spec_ScanRound, ok, i1, i2, range8, Bool.and_self, if_true, List.map_cons, List.map_nil]
  show [a, b, c, d, M.spec_Combine 0 a e, M.spec_Combine 0 b f, M.spec_Combine 0 c g, M.spec_Combine 0 d h] = _
  rw [comb0 ha he, comb0 hb hf, comb0 hc hg, comb0 hd hh]
/-- the sum of words in rounds is the sum one by one -/
theorem addTogether_eq (x : Int) (l : List Int) : M.spec_AddTogether x l = M.impl_AddTogether x l := by
  by_cases h : (M.isWord x && M.spec_ValuesOk l) = true
  · simp only [Bool.and_eq_true] at h
    obtain ⟨hx, hv⟩ := h
    have hL : M.lanesOf 255 = [0, 1, 2, 3, 4, 5, 6, 7] := by decide +kernel
    have hp : M.isPerm [0, 1, 2, 3, 4, 5, 6, 7] = true := by decide +kernel
    have hv0 := hv
    rw [valuesOk_iff] at hv
    obtain ⟨hl, hw⟩ := hv
    match l, hl with
    | [a, b, c, d, e, f, g, h], _ =>
      have wx := hx
      have wa := isWord_iff.2 (hw a (by simp))
      have wb := isWord_iff.2 (hw b (by simp))
      have wc := isWord_iff.2 (hw c (by simp))
      have wd := isWord_iff.2 (hw d (by simp))
      have we := isWord_iff.2 (hw e (by simp))
      have wf := isWord_iff.2 (hw f (by simp))
      have wg := isWord_iff.2 (hw g (by simp))
      have wh := isWord_iff.2 (hw h (by simp))
      have hb : M.spec_ScanBefore 0 [a, b, c, d, e, f, g, h] = [0, a, (a + b) % 65536, (a + (b + c) % 65536) % 65536, ((a + b) % 65536 + (c + d) % 65536) % 65536, (a + ((b + c) % 65536 + (d + e) % 65536) % 65536) % 65536,
          ((a + b) % 65536 + ((c + d) % 65536 + (e + f) % 65536) % 65536) % 65536, ((a + (b + c) % 65536) % 65536 + ((d + e) % 65536 + (f + g) % 65536) % 65536) % 65536] := by
        have h1 := scan_1 wa wb wc wd we wf wg wh
        have h2 := scan_2 wa (isWord_mod (a + b)) (isWord_mod (b + c)) (isWord_mod (c + d)) (isWord_mod (d + e)) (isWord_mod (e + f)) (isWord_mod (f + g)) (isWord_mod (g + h))
        have h3 := scan_4 wa (isWord_mod (a + b)) (isWord_mod (a + (b + c) % 65536)) (isWord_mod ((a + b) % 65536 + (c + d) % 65536)) (isWord_mod ((b + c) % 65536 + (d + e) % 65536)) (isWord_mod ((c + d) % 65536 + (e + f) % 65536)) (isWord_mod ((d + e) % 65536 + (f + g) % 65536)) (isWord_mod ((e + f) % 65536 + (g + h) % 65536))
        unfold M.spec_ScanBefore M.spec_ScanAll
        rw [h1, h2, h3]; rfl
      have hR : M.spec_ReduceMasked 0 [a, b, c, d, e, f, g, h] 255 = ((((((((0 + a) % 65536 + b) % 65536 + c) % 65536 + d) % 65536 + e) % 65536 + f) % 65536 + g) % 65536 + h) % 65536 := by
        have k0 : M.hasLane 255 0 = true := by decide +kernel
        have k1 : M.hasLane 255 1 = true := by decide +kernel
        have k2 : M.hasLane 255 2 = true := by decide +kernel
        have k3 : M.hasLane 255 3 = true := by decide +kernel
        have k4 : M.hasLane 255 4 = true := by decide +kernel
        have k5 : M.hasLane 255 5 = true := by decide +kernel
        have k6 : M.hasLane 255 6 = true := by decide +kernel
        have k7 : M.hasLane 255 7 = true := by decide +kernel
        have i1 : M.isMask 255 = true := rfl
        have i2 : M.spec_l21Op 0 = true := rfl
        simp only [M.spec_ReduceMasked, hv0, i1, i2, Bool.and_self, if_true, range8, List.foldl_cons, List.foldl_nil]
        have c0 : ((0 : Nat) : Int) = 0 := rfl
        have c1 : ((1 : Nat) : Int) = 1 := rfl
        have c2 : ((2 : Nat) : Int) = 2 := rfl
        have c3 : ((3 : Nat) : Int) = 3 := rfl
        have c4 : ((4 : Nat) : Int) = 4 := rfl
        have c5 : ((5 : Nat) : Int) = 5 := rfl
        have c6 : ((6 : Nat) : Int) = 6 := rfl
        have c7 : ((7 : Nat) : Int) = 7 := rfl
        simp only [c0, c1, c2, c3, c4, c5, c6, c7, k0, k1, k2, k3, k4, k5, k6, k7, if_true]
        show M.spec_Combine 0 (M.spec_Combine 0 (M.spec_Combine 0 (M.spec_Combine 0 (M.spec_Combine 0 (M.spec_Combine 0 (M.spec_Combine 0 (M.spec_Combine 0 0 a) b) c) d) e) f) g) h = _
        have w0 : M.isWord 0 = true := rfl
        rw [comb0 w0 wa, comb0 (isWord_mod _) wb, comb0 (isWord_mod _) wc, comb0 (isWord_mod _) wd, comb0 (isWord_mod _) we, comb0 (isWord_mod _) wf, comb0 (isWord_mod _) wg, comb0 (isWord_mod _) wh]
      have hI : M.impl_AddTogether x [a, b, c, d, e, f, g, h] = ([x, (x + a) % 65536, ((x + a) % 65536 + b) % 65536, (((x + a) % 65536 + b) % 65536 + c) % 65536, ((((x + a) % 65536 + b) % 65536 + c) % 65536 + d) % 65536, (((((x + a) % 65536 + b) % 65536 + c) % 65536 + d) % 65536 + e) % 65536,
          ((((((x + a) % 65536 + b) % 65536 + c) % 65536 + d) % 65536 + e) % 65536 + f) % 65536, (((((((x + a) % 65536 + b) % 65536 + c) % 65536 + d) % 65536 + e) % 65536 + f) % 65536 + g) % 65536], ((((((((x + a) % 65536 + b) % 65536 + c) % 65536 + d) % 65536 + e) % 65536 + f) % 65536 + g) % 65536 + h) % 65536, true) := by
        have e1 := addW_eq wx wa
        have e2 := addW_eq (isWord_mod (x + a)) wb
        unfold M.impl_AddTogether M.addInOrder
        simp only [hL, hp, hx, hv0, Bool.and_self, if_true]
        have : M.aio [a, b, c, d, e, f, g, h] [0, 1, 2, 3, 4, 5, 6, 7] x [0, 0, 0, 0, 0, 0, 0, 0] =
          (let y1 := M.addW x a; let y2 := M.addW y1 b; let y3 := M.addW y2 c; let y4 := M.addW y3 d; let y5 := M.addW y4 e; let y6 := M.addW y5 f; let y7 := M.addW y6 g; ([x, y1, y2, y3, y4, y5, y6, y7], M.addW y7 h)) := rfl
        rw [this]
        simp only [e1, addW_eq (isWord_mod _) wb, addW_eq (isWord_mod _) wc, addW_eq (isWord_mod _) wd, addW_eq (isWord_mod _) we, addW_eq (isWord_mod _) wf, addW_eq (isWord_mod _) wg, addW_eq (isWord_mod _) wh]
      have hS : M.spec_AddTogether x [a, b, c, d, e, f, g, h] = ([M.addW x 0, M.addW x a, M.addW x ((a + b) % 65536), M.addW x ((a + (b + c) % 65536) % 65536), M.addW x (((a + b) % 65536 + (c + d) % 65536) % 65536), M.addW x ((a + ((b + c) % 65536 + (d + e) % 65536) % 65536) % 65536),
          M.addW x (((a + b) % 65536 + ((c + d) % 65536 + (e + f) % 65536) % 65536) % 65536), M.addW x (((a + (b + c) % 65536) % 65536 + ((d + e) % 65536 + (f + g) % 65536) % 65536) % 65536)],
          M.addW x (((((((((0 + a) % 65536 + b) % 65536 + c) % 65536 + d) % 65536 + e) % 65536 + f) % 65536 + g) % 65536 + h) % 65536), true) := by
        unfold M.spec_AddTogether
        rw [hb, hR]
        simp only [hx, hv0, Bool.and_self, if_true, range8, List.map_cons, List.map_nil]; rfl
      rw [hS, hI]
      have w0 : M.isWord 0 = true := rfl
      have gx := isWord_iff.1 hx
      have e0 : x % 65536 = x := Int.emod_eq_of_lt gx.1 (by clear hb hR hI hS; omega)
      clear hb hR hI hS
      simp only [addW_eq wx w0, addW_eq wx wa, addW_eq wx (isWord_mod _), Int.emod_add_emod, Int.add_emod_emod]
      simp only [Int.add_assoc, Int.zero_add, Int.add_zero, e0]
  · have h' : (M.isWord x && (M.spec_ValuesOk l && M.isPerm (M.lanesOf 255))) = false := by
      cases h1 : M.isWord x <;> cases h2 : M.spec_ValuesOk l <;> simp_all
    simp only [M.spec_AddTogether, M.impl_AddTogether, M.addInOrder, h', h, if_false, Bool.false_eq_true]
theorem impl_AddTogether_len (x : Int) (l : List Int) : (M.impl_AddTogether x l).1.length ≤ 8 := by
  unfold M.impl_AddTogether M.addInOrder
  split
  · simp [aio_len]
  · simp
theorem seqInt_len (k : Int) (n : Nat) : (M.seqInt k n).length = n := by simp [M.seqInt]
theorem wp.laws_FnExactAddTogether.math (x : Int) (l : List Int) (h : M.laws_FnExactAddTogether_pre x l) : wp.laws_FnExactAddTogether x l (fun r => r = M.laws_FnExactAddTogether x l) := by
  have h8 := impl_AddTogether_len x l
  unfold wp.laws_FnExactAddTogether
  simp only [M.laws_FnExactAddTogether, M.laws_toIntS, addTogether_eq, forall_eq, M.laws_markIntS, M.laws_heldIntS, seqInt_len, if_true, M.laws_eqIntS, M.laws_toIntS_pre, M.laws_eqIntS_pre, M.laws_markIntS_pre, M.laws_heldIntS_pre, M.Small, M.Few]
  refine bcase_mk (fun _ => trivial) fun hlen => ?_
  have hl : l.length ≤ 1048576 := by simp at hlen; omega
  generalize M.impl_AddTogether x l = w at *
  have b1 : decide (1 + (l.length : Int) < 0) = false := by simp; omega
  have b2 : decide (1 + (w.1.length : Int) < 0) = false := by simp; omega
  simp only [beq_self_eq_true, Bool.not_true, bne_self_eq_false, b1, b2, bcase]
  refine ⟨?_, ?_, ?_, ?_, ?_, ?_, ?_, ?_, ?_, ?_, ?_, ?_, trivial⟩ <;> omega
end Go.V
