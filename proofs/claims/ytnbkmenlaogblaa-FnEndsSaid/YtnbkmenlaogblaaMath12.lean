import Derived.Test.YtnbkmenlaogblaaMath4
import Derived.Test.YtnbkmenlaogblaaWp12
set_option linter.unusedVariables false
set_option linter.unusedSimpArgs false
set_option maxRecDepth 20000
namespace Go.V
theorem bitAnd_255 (x : Int) : bitAnd .i64 x 255 = x % 256 := by
  unfold bitAnd
  have e1 : (BitVec.ofInt (IntKind.bits .i64) x &&& BitVec.ofInt (IntKind.bits .i64) 255).toNat = (x % 256).toNat := by
    show (BitVec.ofInt 64 x &&& BitVec.ofInt 64 255).toNat = _
    rw [BitVec.toNat_and, BitVec.toNat_ofInt, show (BitVec.ofInt 64 255).toNat = 2 ^ 8 - 1 from rfl, Nat.and_two_pow_sub_one_eq_mod]
    rw [show ((2 ^ 64 : Nat) : Int) = 18446744073709551616 from rfl]
    omega
  rw [e1, w64 (by omega) (by omega)]
  omega
theorem byte_in (c : D.Cur) : 0 ≤ (M.spec_l01Byte c).1 ∧ (M.spec_l01Byte c).1 ≤ 255 := by
  unfold M.spec_l01Byte
  split
  · show 0 ≤ bitAnd .i64 _ 255 ∧ bitAnd .i64 _ 255 ≤ 255
    rw [bitAnd_255]; omega
  · show 0 ≤ M.curX _ ∧ M.curX _ ≤ 255
    unfold M.curX
    rw [bitAnd_255]; omega
theorem byte_b (c : D.Cur) : (M.spec_l01Byte c).2.b = c.b := by unfold M.spec_l01Byte; split <;> rfl
theorem byte_ok {c : D.Cur} (h : M.CurOk c) : M.CurOk (M.spec_l01Byte c).2 := by
  obtain ⟨h1, h2⟩ := h
  refine ⟨?_, by rw [byte_b]; exact h2⟩
  unfold M.Long at h2
  unfold M.spec_l01Byte
  split
  · rename_i hlt
    show 0 ≤ IntKind.wrap .i64 (c.i + 1)
    rw [w64 (by omega) (by omega)]; omega
  · exact h1
theorem below_b (c : D.Cur) (n : Int) : (M.spec_l01Below c n).2.b = c.b := by
  unfold M.spec_l01Below
  (repeat' split) <;> simp only [byte_b]
theorem below_ok {c : D.Cur} (h : M.CurOk c) (n : Int) : M.CurOk (M.spec_l01Below c n).2 := by
  unfold M.spec_l01Below
  split
  · exact h
  split
  · exact byte_ok h
  · exact byte_ok (byte_ok (byte_ok (byte_ok h)))
theorem tmod_in {x n : Int} (hx : 0 ≤ x) (hn : 0 < n) : 0 ≤ Int.tmod x n ∧ Int.tmod x n < n :=
  ⟨Int.tmod_nonneg _ hx, Int.tmod_lt_of_pos _ hn⟩
theorem below_in (c : D.Cur) {n : Int} (hn : 0 < n) : 0 ≤ (M.spec_l01Below c n).1 ∧ (M.spec_l01Below c n).1 < n := by
  unfold M.spec_l01Below
  rw [if_neg (by omega)]
  split
  · exact tmod_in (byte_in c).1 hn
  · refine tmod_in ?_ hn
    have h1 := byte_in c
    have h2 := byte_in (M.spec_l01Byte c).2
    have h3 := byte_in (M.spec_l01Byte (M.spec_l01Byte c).2).2
    have h4 := byte_in (M.spec_l01Byte (M.spec_l01Byte (M.spec_l01Byte c).2).2).2
    rw [w64 (x := (M.spec_l01Byte c).1 * 16777216) (by omega) (by omega), w64 (x := (M.spec_l01Byte (M.spec_l01Byte c).2).1 * 65536) (by omega) (by omega),
      w64 (x := (M.spec_l01Byte (M.spec_l01Byte (M.spec_l01Byte c).2).2).1 * 256) (by omega) (by omega), w64 (x := _ + (M.spec_l01Byte (M.spec_l01Byte c).2).1 * 65536) (by omega) (by omega),
      w64 (x := _ + (M.spec_l01Byte (M.spec_l01Byte (M.spec_l01Byte c).2).2).1 * 256) (by omega) (by omega), w64 (by omega) (by omega)]
    omega
set_option maxRecDepth 20000 in
theorem wp.spec_l01New.math (b : List Int) (h : M.spec_l01New_pre b) : wp.spec_l01New b (fun r => r = M.spec_l01New b) := by
  unfold wp.spec_l01New
  have hl : b.length ≤ 9223372036854775807 := h
  let h0 := IntKind.wrap .i64 (98561 + ((b.length : Nat) : Int))
  refine loop_n (min b.length 4000) (fun k => ((b.take k).foldl M.curNext h0, (k : Int), ())) (fun _ => True) rfl trivial (fun k hk _ next hn => ?_) fun _ next => ?_
  · have hk1 : k < b.length := by omega
    have hn := hn trivial
    rw [List.take_add_one, List.getElem?_eq_getElem hk1, Option.toList_some, List.foldl_append] at hn
    refine bcase_t (by simp; omega) (bcase_t (by simp; omega) ⟨by omega, ?_⟩)
    rw [up64 hk1 hl, rd_nat hk1]
    exact hn
  · have fin : (⟨b, 0, (b.take (min b.length 4000)).foldl M.curNext h0⟩ : D.Cur) = M.spec_l01New b := by
      unfold M.spec_l01New
      congr 2
      rcases Nat.le_total b.length 4000 with g | g
      · rw [Nat.min_eq_left g, List.take_length, List.take_of_length_le g]
      · rw [Nat.min_eq_right g]
    by_cases g : b.length ≤ 4000
    · exact bcase_f (by simp; omega) fin
    · exact bcase_t (by simp; omega) (bcase_f (by simp; omega) fin)
theorem wp.spec_l01Byte.math (c : D.Cur) (h : M.spec_l01Byte_pre c) : wp.spec_l01Byte c (fun r => r = M.spec_l01Byte c) := by
  obtain ⟨h1, h2⟩ := h
  refine bcase_mk (fun e => ⟨⟨h1, by simpa using e⟩, ?_⟩) fun e => ?_
  · have e : c.i < ((c.b.length : Nat) : Int) := by simpa using e
    unfold M.spec_l01Byte
    rw [if_pos e]; rfl
  · have e : ¬ c.i < ((c.b.length : Nat) : Int) := by simpa using e
    unfold M.spec_l01Byte
    rw [if_neg e]; rfl
theorem cur_eta {c d : D.Cur} (h : d.b = c.b) : (⟨c.b, d.i, d.h⟩ : D.Cur) = d := by rw [← h]
theorem wp.spec_l01PickInt.math (c : D.Cur) (l : List Int) (h : M.spec_l01PickInt_pre c l) : wp.spec_l01PickInt c l (fun r => r = M.spec_l01PickInt c l) := by
  obtain ⟨h1, h2, h3⟩ := h
  have hpos : (0 : Int) < ((l.length : Nat) : Int) := by have := List.length_pos_iff.2 h2; omega
  refine ⟨h1, fun r hr => ?_⟩
  have := below_in c hpos
  refine ⟨by rw [hr]; exact this, ?_⟩
  rw [hr, cur_eta (below_b c _)]; rfl
theorem wp.spec_l01Below.math (c : D.Cur) (n : Int) (h : M.spec_l01Below_pre c n) : wp.spec_l01Below c n (fun r => r = M.spec_l01Below c n) := by
  refine bcase_mk (fun e => ?_) fun e => bcase_mk (fun e2 => ⟨h, fun r hr => ⟨?_, ?_⟩⟩) fun e2 => ?_
  · have e : n ≤ 0 := by simpa using e
    unfold M.spec_l01Below; rw [if_pos e]
  · simp at e; omega
  · have e : ¬ n ≤ 0 := by simpa using e
    have e2 : n ≤ 256 := by simpa using e2
    unfold M.spec_l01Below; rw [if_neg e, if_pos e2, hr, cur_eta (byte_b c)]
  · have e : ¬ n ≤ 0 := by simpa using e
    have e2 : ¬ n ≤ 256 := by simpa using e2
    have h1 := byte_ok h
    have h2 := byte_ok h1
    have h3 := byte_ok h2
    have b1 := byte_b c
    have b2 : (M.spec_l01Byte (M.spec_l01Byte c).2).2.b = c.b := (byte_b _).trans b1
    have b3 : (M.spec_l01Byte (M.spec_l01Byte (M.spec_l01Byte c).2).2).2.b = c.b := (byte_b _).trans b2
    have b4 : (M.spec_l01Byte (M.spec_l01Byte (M.spec_l01Byte (M.spec_l01Byte c).2).2).2).2.b = c.b := (byte_b _).trans b3
    refine ⟨h, fun r1 g1 => ?_⟩
    subst g1
    rw [cur_eta b1]
    refine ⟨h1, fun r2 g2 => ?_⟩
    subst g2
    rw [cur_eta b2]
    refine ⟨h2, fun r3 g3 => ?_⟩
    subst g3
    rw [cur_eta b3]
    refine ⟨h3, fun r4 g4 => ⟨by omega, ?_⟩⟩
    subst g4
    rw [cur_eta b4]
    unfold M.spec_l01Below; rw [if_neg e, if_neg e2]
theorem wp.spec_l04Plain.math (c : D.Cur) (h : M.spec_l04Plain_pre c) : wp.spec_l04Plain c (fun r => r = M.spec_l04Plain c) := by
  refine ⟨h, fun r1 g1 => ?_⟩
  subst g1
  rw [cur_eta (below_b c 9)]
  refine ⟨below_ok h 9, fun r2 g2 => ?_⟩
  subst g2
  have b2 : (M.spec_l01Below (M.spec_l01Below c 9).2 4).2.b = c.b := (below_b _ _).trans (below_b _ _)
  have h2 := below_ok (below_ok h 9) 4
  rw [cur_eta b2]
  have cut : ∀ (n : Int), (⟨c.b, (M.spec_l01Below (M.spec_l01Below (M.spec_l01Below c 9).2 4).2 n).2.i, (M.spec_l01Below (M.spec_l01Below (M.spec_l01Below c 9).2 4).2 n).2.h⟩ : D.Cur) = (M.spec_l01Below (M.spec_l01Below (M.spec_l01Below c 9).2 4).2 n).2 := fun n => cur_eta ((below_b _ _).trans b2)
  refine bcase_mk (fun e => ⟨h2, fun r3 g3 => ?_⟩) fun e1 => bcase_mk (fun e => ?_) fun e8 => bcase_mk (fun e => ⟨h2, fun r3 g3 => ?_⟩) fun e2 => ⟨h2, fun r3 g3 => ?_⟩
  · subst g3
    rw [cut]
    have e : IntKind.wrap .i64 (1 + (M.spec_l01Below c 9).1) = 1 := by simpa using e
    simp only [M.spec_l04Plain]; rw [if_pos e]
  · have e1 : ¬ IntKind.wrap .i64 (1 + (M.spec_l01Below c 9).1) = 1 := by simpa using e1
    have e : IntKind.wrap .i64 (1 + (M.spec_l01Below c 9).1) = 8 := by simpa using e
    simp only [M.spec_l04Plain]; rw [if_neg e1, if_pos e]
  · subst g3
    rw [cut]
    have e1 : ¬ IntKind.wrap .i64 (1 + (M.spec_l01Below c 9).1) = 1 := by simpa using e1
    have e8 : ¬ IntKind.wrap .i64 (1 + (M.spec_l01Below c 9).1) = 8 := by simpa using e8
    have e : IntKind.wrap .i64 (1 + (M.spec_l01Below c 9).1) = 2 := by simpa using e
    simp only [M.spec_l04Plain]; rw [if_neg e1, if_neg e8, if_pos e]
  · subst g3
    rw [cut]
    refine ⟨below_ok h2 4, fun r4 g4 => ?_⟩
    subst g4
    rw [cur_eta ((below_b _ _).trans ((below_b _ _).trans b2))]
    have e1 : ¬ IntKind.wrap .i64 (1 + (M.spec_l01Below c 9).1) = 1 := by simpa using e1
    have e8 : ¬ IntKind.wrap .i64 (1 + (M.spec_l01Below c 9).1) = 8 := by simpa using e8
    have e2 : ¬ IntKind.wrap .i64 (1 + (M.spec_l01Below c 9).1) = 2 := by simpa using e2
    simp only [M.spec_l04Plain]; rw [if_neg e1, if_neg e8, if_neg e2]
theorem pick_b (c : D.Cur) (l : List Int) : (M.spec_l01PickInt c l).2.b = c.b := below_b _ _
theorem pick_ok {c : D.Cur} (h : M.CurOk c) (l : List Int) : M.CurOk (M.spec_l01PickInt c l).2 := below_ok h _
theorem word_b (c : D.Cur) : (M.spec_l02Word c).2.b = c.b := by
  simp only [M.spec_l02Word]; rw [pick_b, below_b, below_b]
theorem word_ok {c : D.Cur} (h : M.CurOk c) : M.CurOk (M.spec_l02Word c).2 := pick_ok (below_ok (below_ok h _) _) _
theorem wp.spec_l02Word.math (c : D.Cur) (h : M.spec_l02Word_pre c) : wp.spec_l02Word c (fun r => r = M.spec_l02Word c) := by
  refine ⟨h, fun r1 g1 => ?_⟩
  subst g1
  rw [cur_eta (below_b c 9)]
  refine ⟨below_ok h 9, fun r2 g2 => ?_⟩
  subst g2
  have b2 : (M.spec_l01Below (M.spec_l01Below c 9).2 9000).2.b = c.b := (below_b _ _).trans (below_b _ _)
  rw [cur_eta b2]
  refine ⟨⟨below_ok (below_ok h 9) 9000, by simp, by simp⟩, fun r3 g3 => ?_⟩
  subst g3
  rw [cur_eta ((pick_b _ _).trans b2)]
  rfl
theorem words_b : ∀ (k : Nat) (c : D.Cur), (M.wordsN k c).2.b = c.b
  | 0, c => rfl
  | k + 1, c => by simp only [M.wordsN]; rw [word_b, words_b k c]
theorem words_ok : ∀ (k : Nat) {c : D.Cur}, M.CurOk c → M.CurOk (M.wordsN k c).2
  | 0, c, h => h
  | k + 1, c, h => word_ok (words_ok k h)
theorem words_len : ∀ (k : Nat) (c : D.Cur), (M.wordsN k c).1.length = k
  | 0, c => rfl
  | k + 1, c => by simp only [M.wordsN, List.length_append, words_len k c]; rfl
theorem wp.spec_l02Words.math (c : D.Cur) (n : Int) (h : M.spec_l02Words_pre c n) : wp.spec_l02Words c n (fun r => r = M.spec_l02Words c n) := by
  obtain ⟨h1, h2, h3⟩ := h
  refine loop_n n.toNat (fun k => ((M.wordsN k c).1, (k : Int), (M.wordsN k c).2.i, (M.wordsN k c).2.h, ())) (fun _ => True) rfl trivial (fun k hk _ next hn => ?_) fun _ next => ?_
  · have hn := hn trivial
    refine bcase_t (by simp; omega) ?_
    rw [cur_eta (words_b k c)]
    refine ⟨words_ok k h1, fun r hr => ⟨by rw [words_len]; simp; omega, ?_⟩⟩
    subst hr
    rw [up64 (n := n.toNat) hk (by omega)]
    exact hn
  · refine bcase_f (by simp; omega) ?_
    rw [cur_eta (words_b _ c)]; rfl
theorem lwords_b (c : D.Cur) (n : Int) : (M.spec_l02Words c n).2.b = c.b := words_b _ _
theorem wp.spec_l10Case.math (c : D.Cur) (p : List D.Ins) (h : M.spec_l10Case_pre c p) : wp.spec_l10Case c p (fun r => r = M.spec_l10Case c p) := by
  refine ⟨h, fun r1 g1 => ?_⟩
  subst g1
  rw [cur_eta (below_b c 24)]
  refine ⟨below_ok h 24, fun r2 g2 => ?_⟩
  subst g2
  rw [cur_eta ((below_b _ _).trans (below_b c 24))]
  refine ⟨⟨below_ok (below_ok h 24) _, by omega, by omega⟩, fun r3 g3 => ?_⟩
  subst g3
  rw [cur_eta ((lwords_b _ _).trans ((below_b _ _).trans (below_b c 24)))]
  rfl
theorem wp.laws_big.math (b : List Int) : wp.laws_big b (fun r => r = M.laws_big b) := rfl
theorem wp.laws_sameInts.math (a b : List Int) (h : M.laws_sameInts_pre a b) : wp.laws_sameInts a b (fun r => r = M.laws_sameInts a b) := by
  unfold wp.laws_sameInts
  have hb : a.length ≤ 9223372036854775807 := h
  refine bcase_mk (fun e => ?_) fun e => ?_
  · simp [M.laws_sameInts]; rintro rfl; simp at e
  have hl : a.length = b.length := by simp at e; omega
  refine loop_n a.length (fun k => ((k : Int), ())) (fun k => ∀ j : Nat, j < k → rd a j = rd b j) rfl (by simp) (fun k hk hF next hn => ?_) fun hF next => ?_
  · refine bcase_t (by simp; omega) ⟨by omega, by omega, bcase_mk (fun e => ?_) fun e => ?_⟩
    · simp [M.laws_sameInts]; rintro rfl; simp at e
    · rw [up64 hk hb]
      refine hn fun j hj => ?_
      by_cases hjk : j = k
      · subst hjk; simpa using e
      · exact hF j (by omega)
  · refine bcase_f (by simp) ?_
    have := eq_of_takes hl hF
    simp [M.laws_sameInts, this]
theorem plain_b (c : D.Cur) : (M.spec_l04Plain c).2.b = c.b := by
  simp only [M.spec_l04Plain]
  (repeat' split) <;> simp only [below_b]
theorem plain_ok {c : D.Cur} (h : M.CurOk c) : M.CurOk (M.spec_l04Plain c).2 := by
  simp only [M.spec_l04Plain]
  have h2 := below_ok (below_ok h 9) 4
  (repeat' split)
  · exact below_ok h2 _
  · exact h2
  · exact below_ok h2 _
  · exact below_ok (below_ok h2 _) _
theorem one_b (c : D.Cur) (n : Int) : (M.wildOne c n).2.b = c.b := by
  simp only [M.wildOne]
  (repeat' split) <;> simp only [below_b, plain_b]
theorem one_ok {c : D.Cur} (h : M.CurOk c) (n : Int) : M.CurOk (M.wildOne c n).2 := by
  simp only [M.wildOne]
  have h1 := below_ok h 6
  (repeat' split)
  · exact below_ok (below_ok h1 _) _
  · exact below_ok h1 _
  · exact h1
  · exact plain_ok h1
theorem wild_b (n : Int) : ∀ (k : Nat) (c : D.Cur), (M.wildN n k c).2.b = c.b
  | 0, c => rfl
  | k + 1, c => by simp only [M.wildN]; rw [one_b, wild_b n k c]
theorem wild_ok (n : Int) : ∀ (k : Nat) {c : D.Cur}, M.CurOk c → M.CurOk (M.wildN n k c).2
  | 0, c, h => h
  | k + 1, c, h => one_ok (wild_ok n k h) n
theorem wild_len (n : Int) : ∀ (k : Nat) (c : D.Cur), (M.wildN n k c).1.length = k
  | 0, c => rfl
  | k + 1, c => by simp only [M.wildN, List.length_append, wild_len n k c]; rfl
theorem places_b : ∀ (k : Nat) (c : D.Cur), (M.placesN k c).2.b = c.b
  | 0, c => rfl
  | k + 1, c => by simp only [M.placesN]; rw [below_b, places_b k c]
theorem places_ok : ∀ (k : Nat) {c : D.Cur}, M.CurOk c → M.CurOk (M.placesN k c).2
  | 0, c, h => h
  | k + 1, c, h => below_ok (places_ok k h) _
theorem places_len : ∀ (k : Nat) (c : D.Cur), (M.placesN k c).1.length = k
  | 0, c => rfl
  | k + 1, c => by simp only [M.placesN, List.length_append, places_len k c]; rfl
theorem new_ok {b : List Int} (h : M.Long b) : M.CurOk (M.spec_l01New b) := ⟨by simp [M.spec_l01New], h⟩
theorem wp.spec_DrawPlaces.math (b : List Int) (h : M.spec_DrawPlaces_pre b) : wp.spec_DrawPlaces b (fun r => r = M.spec_DrawPlaces b) := by
  refine ⟨h, fun r0 g0 => ?_⟩
  subst g0
  refine loop_n 12 (fun k => ((M.placesN k (M.spec_l01New b)).1, (k : Int), (M.placesN k (M.spec_l01New b)).2.i, (M.placesN k (M.spec_l01New b)).2.h, ())) (fun _ => True) rfl trivial (fun k hk _ next hn => ?_) fun _ next => ?_
  · have hn := hn trivial
    refine bcase_t (by simp; omega) ?_
    have e : (⟨b, (M.placesN k (M.spec_l01New b)).2.i, (M.placesN k (M.spec_l01New b)).2.h⟩ : D.Cur) = (M.placesN k (M.spec_l01New b)).2 := cur_eta (c := M.spec_l01New b) (places_b k _)
    rw [e]
    refine ⟨places_ok k (new_ok h), fun r hr => ⟨by rw [places_len]; simp; omega, ?_⟩⟩
    subst hr
    rw [up64 hk (by omega)]
    exact hn
  · exact bcase_f (by simp) rfl
theorem wild_one {c : D.Cur} {n : Int} (h : M.CurOk c) {Q : (D.Ins × D.Cur) → Prop} (hq : Q (M.wildOne c n)) :
    Q (M.wildOne c n) := hq
theorem wp.spec_l07Wild.math (c : D.Cur) (h : M.spec_l07Wild_pre c) : wp.spec_l07Wild c (fun r => r = M.spec_l07Wild c) := by
  refine ⟨h, fun r0 g0 => ?_⟩
  have hn9 := below_in c (n := 9) (by omega)
  rw [← g0] at hn9
  have hok : M.CurOk r0.2 := by rw [g0]; exact below_ok h 9
  have hb : r0.2.b = c.b := by rw [g0]; exact below_b c 9
  have hM : M.spec_l07Wild c = M.wildN r0.1 r0.1.toNat r0.2 := by rw [g0]; rfl
  rw [hM]
  refine loop_n r0.1.toNat (fun k => ((M.wildN r0.1 k r0.2).1, (k : Int), (M.wildN r0.1 k r0.2).2.i, (M.wildN r0.1 k r0.2).2.h, ())) (fun _ => True) rfl trivial (fun k hk _ next hn => ?_) fun _ next => ?_
  · have hn := hn trivial
    have hl := wild_len r0.1 k r0.2
    have hk' := wild_ok r0.1 k hok
    have hb' : (M.wildN r0.1 k r0.2).2.b = c.b := (wild_b _ _ _).trans hb
    simp only [M.wildN] at hn
    generalize M.wildN r0.1 k r0.2 = W at *
    refine bcase_t (by simp; omega) ?_
    rw [cur_eta hb']
    refine ⟨hk', fun r1 g1 => ?_⟩
    have h1 : M.CurOk r1.2 := by rw [g1]; exact below_ok hk' 6
    have b1 : r1.2.b = c.b := by rw [g1]; exact (below_b _ _).trans hb'
    unfold JoinP
    have up := up64 (n := 9) (k := k) (by omega) (by omega)
    have hlen : ∀ x : D.Ins, W.1.length + ([x] : List D.Ins).length ≤ 17179869184 := fun x => by rw [hl]; simp; omega
    have hone : M.wildOne W.2 r0.1 = if r1.1 = 0 ∨ r1.1 = 1 then (⟨10, (M.spec_l01Below r1.2 4).1, (M.spec_l01Below (M.spec_l01Below r1.2 4).2 (IntKind.wrap .i64 (r0.1 + 1))).1, 0⟩, (M.spec_l01Below (M.spec_l01Below r1.2 4).2 (IntKind.wrap .i64 (r0.1 + 1))).2)
        else if r1.1 = 2 then (⟨11, 0, (M.spec_l01Below r1.2 (IntKind.wrap .i64 (r0.1 + 1))).1, 0⟩, (M.spec_l01Below r1.2 (IntKind.wrap .i64 (r0.1 + 1))).2) else if r1.1 = 3 then (⟨12, 0, 0, 0⟩, r1.2) else M.spec_l04Plain r1.2 := by rw [g1]; rfl
    refine bcase_mk (fun e => bcase_t rfl ?_) fun e0 => bcase_mk (fun e => ?_) fun e1 => bcase_mk (fun e2 => ?_) fun e2 => bcase_mk (fun e3 => ?_) fun e3 => ?_
    · have e : r1.1 = 0 := by simpa using e
      rw [cur_eta b1]
      refine ⟨h1, fun r2 g2 => ?_⟩
      subst g2
      rw [cur_eta ((below_b _ _).trans b1)]
      refine ⟨below_ok h1 4, fun r3 g3 => ⟨hlen _, ?_⟩⟩
      subst g3
      rw [hone, if_pos (.inl e)] at hn
      rw [up]; exact hn
    · have e : r1.1 = 1 := by simpa using e
      rw [cur_eta b1]
      refine ⟨h1, fun r2 g2 => ?_⟩
      subst g2
      rw [cur_eta ((below_b _ _).trans b1)]
      refine ⟨below_ok h1 4, fun r3 g3 => ⟨hlen _, ?_⟩⟩
      subst g3
      rw [hone, if_pos (.inr e)] at hn
      rw [up]; exact hn
    all_goals
      have n0 : ¬ r1.1 = 0 := by simpa using e0
      have n1 : ¬ r1.1 = 1 := by simpa using e1
      rw [hone, if_neg (by omega)] at hn
    · have e : r1.1 = 2 := by simpa using e2
      rw [cur_eta b1]
      refine ⟨h1, fun r3 g3 => ⟨hlen _, ?_⟩⟩
      subst g3
      rw [if_pos e] at hn
      rw [up]; exact hn
    · have n2 : ¬ r1.1 = 2 := by simpa using e2
      have e : r1.1 = 3 := by simpa using e3
      refine ⟨hlen _, ?_⟩
      rw [if_neg n2, if_pos e] at hn
      rw [up]; exact hn
    · have n2 : ¬ r1.1 = 2 := by simpa using e2
      have n3 : ¬ r1.1 = 3 := by simpa using e3
      rw [cur_eta b1]
      refine ⟨h1, fun r3 g3 => ⟨hlen _, ?_⟩⟩
      subst g3
      rw [if_neg n2, if_neg n3] at hn
      rw [up]; exact hn
  · refine bcase_f (by simp; omega) ?_
    rw [cur_eta ((wild_b _ _ _).trans hb)]
theorem lwild_b (c : D.Cur) : (M.spec_l07Wild c).2.b = c.b := (wild_b _ _ _).trans (below_b _ _)
theorem lwild_ok {c : D.Cur} (h : M.CurOk c) : M.CurOk (M.spec_l07Wild c).2 := wild_ok _ _ (below_ok h _)
theorem wp.spec_DrawLane.math (b : List Int) (h : M.spec_DrawLane_pre b) : wp.spec_DrawLane b (fun r => r = M.spec_DrawLane b) := by
  refine ⟨h, fun r0 g0 => ?_⟩
  subst g0
  refine ⟨new_ok h, fun r1 g1 => ?_⟩
  have e1 : r1 = M.spec_l07Wild (M.spec_l01New b) := g1
  subst e1
  have e : (⟨b, (M.spec_l07Wild (M.spec_l01New b)).2.i, (M.spec_l07Wild (M.spec_l01New b)).2.h⟩ : D.Cur) = (M.spec_l07Wild (M.spec_l01New b)).2 := cur_eta (c := M.spec_l01New b) (lwild_b _)
  rw [e]
  refine ⟨lwild_ok (new_ok h), fun r2 g2 => ?_⟩
  subst g2
  rfl
theorem runN_off (p : List D.Ins) : ∀ (k : Nat) (l : D.Lane) (n : Int), M.runN p k l n = ((M.runN p k l 0).1, n + (M.runN p k l 0).2)
  | 0, l, n => by simp [M.runN]
  | k + 1, l, n => by
    rw [M.runN, M.runN]
    split
    · rw [runN_off p k _ (n + 1), runN_off p k _ (0 + 1)]
      simp only [Prod.mk.injEq, true_and]; omega
    · simp
theorem runN_end (p : List D.Ins) (k : Nat) (l : D.Lane) (n : Int) (h : ¬ l.Pc < p.length) : M.runN p k l n = (l, n) := by
  cases k with
  | zero => rfl
  | succ k => rw [M.runN, if_neg h]
theorem runN_add (p : List D.Ins) : ∀ (a b : Nat) (l : D.Lane) (n : Int), M.runN p (a + b) l n = M.runN p b (M.runN p a l n).1 (M.runN p a l n).2
  | 0, b, l, n => by simp [M.runN]
  | a + 1, b, l, n => by
    rw [show a + 1 + b = (a + b) + 1 by omega, M.runN, M.runN]
    split
    · exact runN_add p a b _ _
    · rename_i h
      exact (runN_end p b l n h).symm
theorem reg_below (c : D.Cur) : M.isReg (M.spec_l01Below c 4).1 = true := by
  have := below_in c (n := 4) (by omega)
  rw [isReg_iff]; omega
theorem plain_good (c : D.Cur) {n : Int} (hn : 0 ≤ n ∧ n ≤ 32) : M.insOk (M.spec_l04Plain c).1 n = true ∧ M.isLocal (M.spec_l04Plain c).1 = true := by
  have h9 := below_in c (n := 9) (by omega)
  have hw : IntKind.wrap .i64 (1 + (M.spec_l01Below c 9).1) = 1 + (M.spec_l01Below c 9).1 := w64 (by omega) (by omega)
  have hin : M.isIn n 0 32 = true := by simp [M.isIn]; omega
  have h6 := fun d : D.Cur => below_in d (n := 6) (by omega)
  have hw6 : ∀ d : D.Cur, M.isWord (M.spec_l01Below d 6).1 = true := fun d => by rw [isWord_iff]; have := h6 d; omega
  simp only [M.spec_l04Plain, hw]
  generalize (M.spec_l01Below c 9).1 = o at *
  split
  · rename_i e
    refine ⟨?_, by simp [M.isLocal, M.isIn]; omega⟩
    simp only [M.insOk, hin, Bool.true_and]
    rw [if_neg (by omega), if_pos (by omega)]
    simp [reg_below, hw6]
  split
  · rename_i e
    refine ⟨?_, by simp [M.isLocal, M.isIn]; omega⟩
    simp only [M.insOk, hin, Bool.true_and]
    rw [if_neg (by omega), if_neg (by omega), if_neg (by omega), if_pos (by omega)]
    simp [reg_below]
  split
  · rename_i e
    refine ⟨?_, by simp [M.isLocal, M.isIn]; omega⟩
    simp only [M.insOk, hin, Bool.true_and]
    rw [if_neg (by omega), if_neg (by omega), if_pos (by omega)]
    simp [reg_below]
  · refine ⟨?_, by simp [M.isLocal, M.isIn]; omega⟩
    simp only [M.insOk, hin, Bool.true_and]
    rw [if_neg (by omega), if_neg (by omega), if_neg (by omega), if_neg (by omega), if_neg (by omega), if_neg (by omega)]
    have : M.isIn (1 + o) 3 9 = true := by simp [M.isIn]; omega
    simp [reg_below, this]
theorem one_good (c : D.Cur) {n : Int} (hn : 0 ≤ n ∧ n ≤ 8) : M.insOk (M.wildOne c n).1 n = true ∧ M.isLocal (M.wildOne c n).1 = true := by
  have hw : IntKind.wrap .i64 (n + 1) = n + 1 := w64 (by omega) (by omega)
  have hin : M.isIn n 0 32 = true := by simp [M.isIn]; omega
  have ht : ∀ d : D.Cur, M.isIn (M.spec_l01Below d (n + 1)).1 0 n = true := fun d => by
    have := below_in d (n := n + 1) (by omega)
    simp [M.isIn]; omega
  simp only [M.wildOne, hw]
  split
  · refine ⟨?_, rfl⟩
    simp [M.insOk, hin, reg_below, ht]
  split
  · refine ⟨?_, rfl⟩
    simp [M.insOk, hin, ht]
  split
  · refine ⟨?_, rfl⟩
    simp [M.insOk, hin]
  · exact plain_good _ (by omega)
theorem wild_good {n : Int} (hn : 0 ≤ n ∧ n ≤ 8) : ∀ (k : Nat) (c : D.Cur), ∀ x ∈ (M.wildN n k c).1, M.insOk x n = true ∧ M.isLocal x = true
  | 0, c, x, hx => by simp [M.wildN] at hx
  | k + 1, c, x, hx => by
    simp only [M.wildN, List.mem_append, List.mem_singleton] at hx
    rcases hx with hx | rfl
    · exact wild_good hn k c x hx
    · exact one_good _ hn
theorem wild_quiet (c : D.Cur) : M.isQuiet (M.spec_l07Wild c).1 = true ∧ (M.spec_l07Wild c).1.length ≤ 8 := by
  have h9 := below_in c (n := 9) (by omega)
  have hl := wild_len (M.spec_l01Below c 9).1 (M.spec_l01Below c 9).1.toNat (M.spec_l01Below c 9).2
  have hg := wild_good (n := (M.spec_l01Below c 9).1) (by omega) (M.spec_l01Below c 9).1.toNat (M.spec_l01Below c 9).2
  change (M.spec_l07Wild c).1.length = _ at hl
  change ∀ x ∈ (M.spec_l07Wild c).1, _ at hg
  have e : (((M.spec_l07Wild c).1.length : Nat) : Int) = (M.spec_l01Below c 9).1 := by omega
  refine ⟨?_, by omega⟩
  simp only [M.isQuiet, M.programOk, Bool.and_eq_true, decide_eq_true_eq, List.all_eq_true, e]
  exact ⟨⟨by omega, fun x hx => (hg x hx).1⟩, fun x hx => (hg x hx).2⟩
theorem word_good (c : D.Cur) : M.isWord (M.spec_l02Word c).1 = true := by
  have h9 := below_in c (n := 9) (by omega)
  have h9000 := below_in (M.spec_l01Below c 9).2 (n := 9000) (by omega)
  simp only [M.spec_l02Word, M.spec_l01PickInt]
  generalize (M.spec_l01Below c 9).1 = a at *
  generalize M.spec_l01Below (M.spec_l01Below c 9).2 9000 = b at *
  have hi := below_in b.2 (n := ((([0, 1, 2, 7, 100, 65535, 32768, a, b.1] : List Int).length : Nat) : Int)) (by simp)
  have hm := rd_of hi.1 hi.2
  rw [isWord_iff]
  generalize rd ([0, 1, 2, 7, 100, 65535, 32768, a, b.1] : List Int) _ = x at *
  simp only [List.mem_cons, List.not_mem_nil, or_false] at hm
  omega
theorem words_good : ∀ (k : Nat) (c : D.Cur), (M.wordsN k c).1.all M.isWord = true
  | 0, c => rfl
  | k + 1, c => by simp only [M.wordsN, List.all_append, words_good k c, List.all_cons, List.all_nil, word_good, Bool.and_self]
theorem drawLane_good (b : List Int) : M.isQuiet (M.spec_DrawLane b).1 = true ∧ (M.spec_DrawLane b).1.length ≤ 8 ∧ M.laneOk (M.spec_DrawLane b).1 (M.spec_DrawLane b).2 = true := by
  obtain ⟨hq, hl⟩ := wild_quiet (M.spec_l01New b)
  refine ⟨hq, hl, ?_⟩
  have hp : M.programOk (M.spec_DrawLane b).1 = true := by
    have := hq
    simp only [M.isQuiet, Bool.and_eq_true] at this
    exact this.1
  simp only [M.laneOk, hp, Bool.true_and]
  simp only [M.spec_DrawLane, M.spec_l10Case]
  generalize M.spec_l07Wild (M.spec_l01New b) = p at *
  have hw : IntKind.wrap .i64 (((p.1.length : Nat) : Int) + 1) = ((p.1.length : Nat) : Int) + 1 := w64 (by omega) (by omega)
  rw [hw]
  have h1 := below_in p.2 (n := 24) (by omega)
  have h2 := below_in (M.spec_l01Below p.2 24).2 (n := ((p.1.length : Nat) : Int) + 1) (by omega)
  simp only [M.laneOf, M.areRegs, M.spec_l02Words, Bool.and_eq_true, M.isIn, decide_eq_true_eq, beq_iff_eq]
  exact ⟨⟨h1.1, by omega⟩, ⟨h2.1, by omega⟩, words_len _ _, words_good _ _⟩
theorem places_good : ∀ (k : Nat) (c : D.Cur), ∀ x ∈ (M.placesN k c).1, 0 ≤ x ∧ x < 10000
  | 0, c, x, hx => by simp [M.placesN] at hx
  | k + 1, c, x, hx => by
    simp only [M.placesN, List.mem_append, List.mem_singleton] at hx
    rcases hx with hx | rfl
    · exact places_good k c x hx
    · exact below_in _ (by omega)
theorem lessW_word (a b : Int) : M.isWord (M.lessW a b) = true := by unfold M.lessW; split <;> rfl
theorem zero_or_mod (c : Bool) (x : Int) : M.isWord (if c then x % 65536 else 0) = true := by split; exact isWord_mod x; rfl
theorem addW_word (a b : Int) : M.isWord (M.addW a b) = true := zero_or_mod _ _
theorem subW_word (a b : Int) : M.isWord (M.subW a b) = true := zero_or_mod _ _
theorem mulW_word (a b : Int) : M.isWord (M.mulW a b) = true := zero_or_mod _ _
theorem xorW_word {a b : Int} (ha : M.isWord a = true) (hb : M.isWord b = true) : M.isWord (bitXor .i64 a b) = true := by
  rw [isWord_iff] at *
  unfold bitXor
  have e1 : (BitVec.ofInt (IntKind.bits .i64) a ^^^ BitVec.ofInt (IntKind.bits .i64) b).toNat = a.toNat ^^^ b.toNat := by
    show (BitVec.ofInt 64 a ^^^ BitVec.ofInt 64 b).toNat = _
    rw [BitVec.toNat_xor, BitVec.toNat_ofInt, BitVec.toNat_ofInt, show ((2 ^ 64 : Nat) : Int) = 18446744073709551616 from rfl]
    congr 1 <;> omega
  have e2 : a.toNat ^^^ b.toNat < 2 ^ 16 := Nat.xor_lt_two_pow (by omega) (by omega)
  rw [e1, w64 (by omega) (by omega)]
  omega
theorem set_words {r : List Int} (h : r.all M.isWord = true) (k : Nat) {x : Int} (hx : M.isWord x = true) : (r.set k x).all M.isWord = true := by
  rw [List.all_eq_true] at *
  intro y hy
  rcases List.mem_or_eq_of_mem_set hy with h' | rfl
  · exact h y h'
  · exact hx
theorem apply_words {i : D.Ins} {n : Int} {t : Int} {r : List Int} (hok : M.insOk i n = true) (ht : 0 ≤ t ∧ t ≤ 23) (hl : r.length = 4) (h : r.all M.isWord = true) : (M.apply i t r).all M.isWord = true := by
  obtain ⟨_, hA, hB, hC⟩ := fits_regs (i := i) (r := r) ⟨hl, n, hok⟩
  have hw := List.all_eq_true.1 h
  have rdw : ∀ x, 0 ≤ x ∧ x ≤ 3 → M.isWord (rd r x) = true := fun x hx => hw _ (rd_of hx.1 (by omega))
  unfold M.apply
  split
  · rename_i e
    refine set_words h _ ?_
    simp only [M.insOk, Bool.and_eq_true] at hok
    have hok := hok.2
    rw [if_neg (by omega), if_pos e] at hok
    simp only [Bool.and_eq_true] at hok
    exact hok.2.1
  split
  · exact set_words h _ (rdw _ (hB (by omega)))
  split
  · exact set_words h _ (addW_word _ _)
  split
  · exact set_words h _ (subW_word _ _)
  split
  · exact set_words h _ (mulW_word _ _)
  split
  · exact set_words h _ (xorW_word (rdw _ (hB (by omega))) (rdw _ (hC (by omega))))
  split
  · exact set_words h _ (lessW_word _ _)
  split
  · exact set_words h _ (isWord_iff.2 (by omega))
  split
  · split
    · exact set_words h _ (rdw _ (hB (by omega)))
    · exact h
  · exact h
theorem laneOk_step {p : List D.Ins} {l : D.Lane} (h : M.laneOk p l = true) (hlt : l.Pc < p.length) : M.laneOk p (M.step p l) = true := by
  obtain ⟨hp, hI⟩ := laneOk_inv h
  have hI' := inv_step hp hI hlt
  have hins := fits_at hp hI hlt
  simp only [M.laneOk, M.laneOf, M.areRegs, M.isIn, Bool.and_eq_true, decide_eq_true_eq, beq_iff_eq] at h ⊢
  have hok : M.insOk (rd p l.Pc) p.length = true := by
    simp only [M.programOk, Bool.and_eq_true, decide_eq_true_eq, List.all_eq_true] at hp
    exact hp.2 _ (rd_of hI.1 hlt)
  exact ⟨hp, h.2.1, ⟨hI'.1, hI'.2.1⟩, hI'.2.2, apply_words hok h.2.1 h.2.2.2.1 h.2.2.2.2⟩
theorem laneOk_runN {p : List D.Ins} : ∀ (k : Nat) (l : D.Lane) (n : Int), M.laneOk p l = true → M.laneOk p (M.runN p k l n).1 = true
  | 0, l, n, h => h
  | k + 1, l, n, h => by
    rw [M.runN]
    split
    · rename_i hlt
      exact laneOk_runN k _ _ (laneOk_step h hlt)
    · exact h
theorem runN_count (p : List D.Ins) : ∀ (k : Nat) (l : D.Lane) (n : Int), n ≤ (M.runN p k l n).2 ∧ (M.runN p k l n).2 ≤ n + k
  | 0, l, n => by simp [M.runN]
  | k + 1, l, n => by
    rw [M.runN]
    split
    · have := runN_count p k (M.step p l) (n + 1); omega
    · simp only; omega
theorem wp.laws_FnLaneParts.math (b : List Int) (h : M.laws_FnLaneParts_pre b) : wp.laws_FnLaneParts b (fun r => r = M.laws_FnLaneParts b) := by
  intro r0 _
  refine bcase_mk (fun _ => rfl) fun _ => ⟨h, fun r1 g1 => ⟨h, fun r2 g2 => ?_⟩⟩
  subst g1
  subst g2
  obtain ⟨hq, hl8, hok⟩ := drawLane_good b
  have hpl : (M.spec_DrawPlaces b).length = 12 := places_len 12 _
  have hpg : ∀ x ∈ M.spec_DrawPlaces b, 0 ≤ x ∧ x < 10000 := places_good 12 _
  generalize M.spec_DrawPlaces b = x at *
  generalize M.spec_DrawLane b = d at *
  have h0 := hpg _ (rd_of (xs := x) (i := 0) (by omega) (by omega))
  have h1 := hpg _ (rd_of (xs := x) (i := 1) (by omega) (by omega))
  have a0 := tmod_in (n := 20) h0.1 (by omega)
  have a1 := tmod_in (n := 20) h1.1 (by omega)
  obtain ⟨hp, hI⟩ := laneOk_inv hok
  have hlong : M.Long d.1 := by unfold M.Long; omega
  refine ⟨by omega, by omega, ?_⟩
  generalize Int.tmod (rd x 0) 20 = u at *
  generalize Int.tmod (rd x 1) 20 = v at *
  rw [w64 (x := u + v) (by omega) (by omega)]
  have e1 : M.impl_RunLane d.1 d.2 (u + v) = M.runN d.1 (u + v).toNat d.2 0 := by
    have : M.isIn (u + v) 0 1000 = true := by simp [M.isIn]; omega
    simp [M.impl_RunLane, M.runLane, hq, hok, this]
  have e2 : M.impl_RunLane d.1 d.2 u = M.runN d.1 u.toNat d.2 0 := by
    have : M.isIn u 0 1000 = true := by simp [M.isIn]; omega
    simp [M.impl_RunLane, M.runLane, hq, hok, this]
  have hok2 := laneOk_runN (p := d.1) u.toNat d.2 0 hok
  have e3 : M.impl_RunLane d.1 (M.runN d.1 u.toNat d.2 0).1 v = M.runN d.1 v.toNat (M.runN d.1 u.toNat d.2 0).1 0 := by
    have : M.isIn v 0 1000 = true := by simp [M.isIn]; omega
    simp [M.impl_RunLane, M.runLane, hq, hok2, this]
  have hI2 := (laneOk_inv hok2).2
  have hadd := runN_add d.1 u.toNat v.toNat d.2 0
  rw [← Int.toNat_add a0.1 a1.1, runN_off d.1 v.toNat _ (M.runN d.1 u.toNat d.2 0).2] at hadd
  have hI3 := (runN_inv hp v.toNat _ 0 hI2).1
  have c1 := runN_count d.1 u.toNat d.2 0
  have c2 := runN_count d.1 v.toNat (M.runN d.1 u.toNat d.2 0).1 0
  refine ⟨⟨hlong, by rw [hI.2.2]; omega⟩, fun r1 g1 => ⟨⟨hlong, by rw [hI.2.2]; omega⟩, fun r2 g2 => ?_⟩⟩
  rw [e1] at g1
  rw [e2] at g2
  subst g2
  rw [e3]
  refine ⟨⟨hlong, by rw [hI2.2.2]; omega⟩, fun r3 g3 => ?_⟩
  rw [hadd] at g1
  subst g3
  generalize M.runN d.1 u.toNat d.2 0 = w1 at *
  generalize M.runN d.1 v.toNat w1.1 0 = w2 at *
  subst g1
  have hw : IntKind.wrap .i64 (w1.2 + w2.2) = w1.2 + w2.2 := w64 (by omega) (by omega)
  refine bcase_t (by simp [hI3.2.2, hI.2.2]) (bcase_t (by simp; omega) (bcase_t (by simp; omega) (bcase_t (by simp; omega) (bcase_t (by simp [hw]) (bcase_t (by simp) ⟨?_, fun r hr => ?_⟩)))))
  · show M.Long w2.1.Regs
    unfold M.Long; rw [hI3.2.2]; omega
  · rw [hr]; simp [M.laws_sameInts, M.laws_FnLaneParts]
end Go.V
