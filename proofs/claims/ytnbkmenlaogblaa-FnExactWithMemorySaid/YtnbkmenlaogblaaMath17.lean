import Derived.Test.YtnbkmenlaogblaaMath14
import Derived.Test.YtnbkmenlaogblaaWp17
import Derived.Test.YtnbkmenlaogblaaWp22
set_option linter.unusedVariables false
set_option linter.unusedSimpArgs false
set_option maxRecDepth 20000
namespace Go.V
theorem wp.slices_Clone_impl_Ins_impl_Ins.math (l : List D.Ins) (h : M.slices_Clone_impl_Ins_impl_Ins_pre l) : wp.slices_Clone_impl_Ins_impl_Ins l (fun r => r = M.slices_Clone_impl_Ins_impl_Ins l) := by
  intro b hb
  refine bcase_mk (fun e => ?_) fun e => ⟨by simp only [List.length_nil, Nat.zero_add]; exact h, ?_⟩
  · rw [hb e]; rfl
  · simp [M.slices_Clone_impl_Ins_impl_Ins]
theorem wp.slices_Clone_impl_Frame_impl_Frame.math (l : List D.Frame) (h : M.slices_Clone_impl_Frame_impl_Frame_pre l) : wp.slices_Clone_impl_Frame_impl_Frame l (fun r => r = M.slices_Clone_impl_Frame_impl_Frame l) := by
  intro b hb
  refine bcase_mk (fun e => ?_) fun e => ⟨by simp only [List.length_nil, Nat.zero_add]; exact h, ?_⟩
  · rw [hb e]; rfl
  · simp [M.slices_Clone_impl_Frame_impl_Frame]
theorem newWarp_eq (p : List D.Ins) (n : Int) : bcase (decide (((p.length : Nat) : Int) > 0)) ((⟨n, [⟨0, ((p.length : Nat) : Int), 255⟩], List.replicate ((32 : Int).toNat) (default : Int)⟩ : D.Warp) = M.newWarp p n) ((⟨n, [], List.replicate ((32 : Int).toNat) (default : Int)⟩ : D.Warp) = M.newWarp p n) := by
  refine bcase_mk (fun e => ?_) fun e => ?_
  · have e3 : p.length > 0 := by simp only [decide_eq_true_eq] at e; omega
    unfold M.newWarp; rw [if_pos e3]; rfl
  · have e3 : ¬ p.length > 0 := by simp only [decide_eq_false_iff_not] at e; omega
    unfold M.newWarp; rw [if_neg e3]; rfl
theorem wp.spec_WarpNew.math (p : List D.Ins) (n : Int) (h : M.spec_WarpNew_pre p n) : wp.spec_WarpNew p n (fun r => r = M.spec_WarpNew p n) := by
  refine ⟨h, fun r hr => bcase_mk (fun e => ?_) fun e r2 hr2 => bcase_mk (fun e2 => ?_) fun e2 => ⟨by omega, ?_⟩⟩
  all_goals simp only [M.spec_ProgramOk, M.spec_l01In] at *
  · simp [M.spec_WarpNew, nt e hr, M.noWarp]
  · simp [M.spec_WarpNew, nt e2 hr2, M.noWarp]
  · have hM : M.spec_WarpNew p n = (M.newWarp p n, true) := by simp [M.spec_WarpNew, nf e hr, nf e2 hr2]
    rw [hM]
    have := bcase_iff.1 (newWarp_eq p n)
    exact bcase_mk (fun e3 => by rw [this.1 e3]) fun e3 => by rw [this.2 e3]
theorem wp.impl_newWarp.math (p : List D.Ins) (n : Int) (h : M.impl_newWarp_pre p n) : wp.impl_newWarp p n (fun r => r = M.impl_newWarp p n) := ⟨by omega, newWarp_eq p n⟩
theorem joinP_of {σ : Type} {A : (σ → Prop) → Prop} {B : σ → Prop} (v : σ) (h : B v) (hA : ∀ J : σ → Prop, J v → A J) : JoinP A B := hA B h
theorem range_succ_map {α : Type} (g : Nat → α) (k : Nat) : (List.range (k + 1)).map g = (List.range k).map g ++ [g k] := by simp [List.range_succ]
theorem wp.impl_newBlock.math (p : List D.Ins) (c : Int) (h : M.impl_newBlock_pre p c) : wp.impl_newBlock p c (fun r => r = M.impl_newBlock p c) := by
  obtain ⟨hp, h0, h1⟩ := h
  unfold wp.impl_newBlock
  simp only [M.slices_Clone_impl_Ins_impl_Ins, forall_eq]
  have q1 : M.slices_Clone_impl_Ins_impl_Ins_pre p := hp
  refine joinP_of (p, [], List.replicate 32 0, 0, 0, ()) ?_ fun J hJ => ?_
  · refine loop_n c.toNat (fun k => ((k : Int), (List.range k).map (fun j : Nat => M.newWarp p (j : Int)), 0, 0, ())) (fun _ => True) rfl trivial (fun k hk _ next hn => ?_) fun _ next => ?_
    · refine bcase_t (by simp; omega) ⟨trivial, by simp; omega, ?_⟩
      have := hn trivial
      rw [range_succ_map] at this
      rw [up64 hk (by omega)]
      exact this
    · exact bcase_f (by simp; omega) rfl
  · have hm : (0 ≤ (32 : Int) ∧ (32 : Int) ≤ 17179869184) := by omega
    exact ⟨⟨q1, ⟨hm, hJ⟩, ⟨hm, hJ⟩, trivial⟩, ⟨hm, ⟨q1, hJ⟩, ⟨q1, hJ⟩, trivial⟩, ⟨⟨q1, hm, hJ⟩, ⟨hm, q1, hJ⟩, trivial⟩, trivial⟩
theorem prog_short {p : List D.Ins} (h : M.programOk p = true) : p.length ≤ 32 := by
  simp only [M.programOk, Bool.and_eq_true, decide_eq_true_eq] at h
  exact h.1
theorem wp.impl_BlockNew.math (p : List D.Ins) (c : Int) (h : M.impl_BlockNew_pre p c) : wp.impl_BlockNew p c (fun r => r = M.impl_BlockNew p c) := by
  refine ⟨h, fun r hr => bcase_mk (fun e => ?_) fun e r2 hr2 => bcase_mk (fun e2 => ?_) fun e2 => ?_⟩
  all_goals simp only [M.impl_ProgramOk, M.impl_isWarpCount] at *
  · simp [M.impl_BlockNew, M.blockNew, nt e hr, M.noBlock]
  · simp [M.impl_BlockNew, M.blockNew, nt e2 hr2, M.noBlock]
  · have h1 := nf e hr
    have h2 := nf e2 hr2
    have h3 := prog_short h1
    have h4 : 1 ≤ c ∧ c ≤ 3 := by simpa [M.isIn] using h2
    refine ⟨⟨by omega, by omega, by omega⟩, fun r3 hr3 => ?_⟩
    rw [hr3]; simp [M.impl_BlockNew, M.blockNew, h1, h2, M.impl_newBlock]
theorem wp.spec_BlockNew.math (p : List D.Ins) (c : Int) (h : M.spec_BlockNew_pre p c) : wp.spec_BlockNew p c (fun r => r = M.spec_BlockNew p c) := by
  refine ⟨h, fun r hr => bcase_mk (fun e => ?_) fun e r2 hr2 => bcase_mk (fun e2 => ?_) fun e2 => ?_⟩
  all_goals simp only [M.spec_ProgramOk, M.spec_l01In] at *
  · simp [M.spec_BlockNew, M.blockNew, nt e hr, M.noBlock]
  · simp [M.spec_BlockNew, M.blockNew, nt e2 hr2, M.noBlock]
  have h1 := nf e hr
  have h2 := nf e2 hr2
  have h3 := prog_short h1
  have h4 : 1 ≤ c ∧ c ≤ 3 := by simpa [M.isIn] using h2
  have hM : M.spec_BlockNew p c = (M.newBlock p c, true) := by simp [M.spec_BlockNew, M.blockNew, h1, h2]
  rw [hM]
  have hm : (0 ≤ (32 : Int) ∧ (32 : Int) ≤ 17179869184) := by omega
  have hl : ([] : List D.Ins).length + p.length ≤ 17179869184 := by simp; omega
  refine joinP_of (p, [], List.replicate 32 0, 0, 0, ()) ?_ fun J hJ => ?_
  · refine loop_n c.toNat (fun k => ((k : Int), (List.range k).map (fun j : Nat => M.newWarp p (j : Int)), 0, 0, ())) (fun _ => True) rfl trivial (fun k hk _ next hn => ?_) fun _ next => ?_
    · refine bcase_t (by simp; omega) ⟨h, fun r hr => ⟨by simp; omega, ?_⟩⟩
      have hin : M.isIn (k : Int) 0 2 = true := by simp [M.isIn]; omega
      have : r = (M.newWarp p (k : Int), true) := by rw [hr]; simp [M.spec_WarpNew, h1, hin]
      rw [up64 hk (by omega), this]
      have := hn trivial
      rwa [range_succ_map] at this
    · exact bcase_f (by simp; omega) rfl
  · have hJ' : J ((([] : List D.Ins) ++ p), [], (List.replicate ((32 : Int).toNat) (default : Int)), 0, 0, ()) := hJ
    simp only [and_true]
    simp only [hl, hm, hJ', and_self]
theorem wp.impl_copyWarp.math (x : D.Warp) (h : M.impl_copyWarp_pre x) : wp.impl_copyWarp x (fun r => r = M.impl_copyWarp x) := by
  obtain ⟨h1, h2⟩ := h
  have q1 : M.slices_Clone_impl_Frame_impl_Frame_pre x.Frames := h1
  have q2 : M.slices_Clone_int_int_pre x.Regs := h2
  unfold wp.impl_copyWarp
  simp only [M.slices_Clone_impl_Frame_impl_Frame, M.slices_Clone_int_int, forall_eq, q1, q2, true_and, and_true, M.impl_copyWarp, and_self]
theorem wp.impl_copyBlock.math (b : D.Block) (h : M.impl_copyBlock_pre b) : wp.impl_copyBlock b (fun r => r = M.impl_copyBlock b) := by
  obtain ⟨h1, ⟨h2, hW⟩, h3⟩ := h
  have q1 : M.slices_Clone_impl_Ins_impl_Ins_pre b.Code := h1
  have q2 : M.slices_Clone_int_int_pre b.Memory := h3
  unfold wp.impl_copyBlock
  simp only [M.slices_Clone_impl_Ins_impl_Ins, M.slices_Clone_int_int, forall_eq]
  refine joinP_of (b.Code, [], b.Memory, b.Waiting, b.Phase, ()) ?_ fun J hJ => ⟨⟨q1, ⟨q2, hJ⟩, ⟨q2, hJ⟩, trivial⟩, ⟨q1, q2, hJ⟩, trivial⟩
  refine loop_n b.Warps.length (fun k => ((k : Int), b.Warps.take k, b.Waiting, b.Phase, ())) (fun _ => True) rfl trivial (fun k hk _ next hn => ?_) fun _ next => ?_
  · refine bcase_t (by simp; omega) ⟨by omega, hW _ (rd_mem hk), by simp; omega, ?_⟩
    rw [up64 hk (by omega)]
    have := hn trivial
    rw [List.take_add_one, List.getElem?_eq_getElem hk, Option.toList_some] at this
    rw [rd_nat hk]; exact this
  · refine bcase_f (by simp) ?_
    rw [List.take_length]; rfl
theorem wp.impl_WithMemory.math (b : D.Block) (m : List Int) (h : M.impl_WithMemory_pre b m) : wp.impl_WithMemory b m (fun r => r = M.impl_WithMemory b m) := by
  obtain ⟨h, hm⟩ := h
  have hL : M.BLong b := by
    obtain ⟨h1, ⟨h2, hW⟩, h3⟩ := h
    unfold M.BLong M.WsLong M.WLong M.Long
    exact ⟨by omega, ⟨by omega, fun x hx => by have := hW x hx; unfold M.WFit at this; omega⟩, by omega⟩
  refine ⟨h, fun r hr => ⟨hL, fun r2 hr2 => bcase_mk (fun e => ?_) fun e => ⟨by show m.length ≤ 9223372036854775807; omega, fun r3 hr3 => bcase_mk (fun e2 => ?_) fun e2 => ⟨hm, fun r4 hr4 => ?_⟩⟩⟩⟩
  all_goals simp only [M.impl_copyBlock, M.impl_BlockOk] at *
  · subst hr; simp [M.impl_WithMemory, M.withMemory, nt e hr2]
  · subst hr; simp [M.impl_WithMemory, M.withMemory, nt e2 hr3]
  · subst hr; rw [hr4]; simp [M.impl_WithMemory, M.withMemory, nf e hr2, nf e2 hr3, M.slices_Clone_int_int]
/-! marks -/
theorem seqFrame_len (k : Int) (n : Nat) : (M.seqFrame k n).length = n := by simp [M.seqFrame]
theorem wp.laws_markFrameS.math (a : List D.Frame) (x : Int) (h : M.laws_markFrameS_pre a x) : wp.laws_markFrameS a x (fun r => r = M.laws_markFrameS a x) := by
  unfold wp.laws_markFrameS
  obtain ⟨⟨h1, h2⟩, h3⟩ := h
  unfold M.Few at h3
  let g : Nat → D.Frame := fun i => ⟨x + 3 * (i : Int), x + 3 * (i : Int) + 1, x + 3 * (i : Int) + 2⟩
  refine loop_n a.length (fun k => (x + 3 * k, (k : Int), mk g a k, ())) (fun _ => True) (by simp [mk_zero]) trivial (fun k hk hF next hn => ?_) fun hF next => ?_
  · have hl := mk_len g a (Nat.le_of_lt hk)
    have e1 : IntKind.wrap .i64 (x + 3 * (k : Int) + 1) = x + 3 * (k : Int) + 1 := w64 (by omega) (by omega)
    have e2 : IntKind.wrap .i64 (x + 3 * (k : Int) + 1 + 1) = x + 3 * (k : Int) + 2 := by rw [w64 (by omega) (by omega)]; omega
    have e3 : IntKind.wrap .i64 (x + 3 * (k : Int) + 2 + 1) = x + 3 * ((k + 1 : Nat) : Int) := by rw [w64 (by omega) (by omega)]; push_cast; omega
    have hs := mk_set g a hk
    refine bcase_t (by simp; omega) ?_
    simp only [e1, e2, e3, List.length_set, hl, Int.toNat_natCast, up64 hk (show a.length ≤ 9223372036854775807 by omega)]
    refine ⟨by omega, by omega, by omega, ?_⟩
    rw [show (⟨x + 3 * (k : Int), x + 3 * (k : Int) + 1, x + 3 * (k : Int) + 2⟩ : D.Frame) = g k from rfl, hs]
    exact hn trivial
  · exact bcase_f (by simp) (by rw [mk_all]; rfl)
theorem wsz_pos (x : D.Warp) : 1 ≤ M.wsz x := by unfold M.wsz; omega
theorem wssz_nn : ∀ l : List D.Warp, 0 ≤ M.wssz l ∧ (l.length : Int) ≤ M.wssz l
  | [] => by simp [M.wssz]
  | x :: l => by
    have := wssz_nn l
    have := wsz_pos x
    simp only [M.wssz, List.length_cons]; omega
theorem wssz_app : ∀ (l m : List D.Warp), M.wssz (l ++ m) = M.wssz l + M.wssz m
  | [], m => by simp [M.wssz]
  | x :: l, m => by simp only [List.cons_append, M.wssz, wssz_app l m]; omega
theorem markWs_app : ∀ (l m : List D.Warp) (k : Int), M.markWs (l ++ m) k = M.markWs l k ++ M.markWs m (k + M.wssz l)
  | [], m, k => by simp [M.markWs, M.wssz]
  | x :: l, m, k => by
    simp only [List.cons_append, M.markWs, M.wssz, markWs_app l m]
    rw [show k + M.wsz x + M.wssz l = k + (M.wsz x + M.wssz l) by omega]
theorem markWs_len : ∀ (l : List D.Warp) (k : Int), (M.markWs l k).length = l.length
  | [], k => rfl
  | x :: l, k => by simp [M.markWs, markWs_len l]
theorem take_snoc {α : Type} [Inhabited α] {l : List α} {k : Nat} (hk : k < l.length) : l.take (k + 1) = l.take k ++ [rd l (k : Int)] := by
  rw [List.take_add_one, List.getElem?_eq_getElem hk, rd_nat hk]; rfl
theorem wssz_le {l : List D.Warp} {k : Nat} (hk : k < l.length) : M.wssz (l.take k) + M.wsz (rd l (k : Int)) ≤ M.wssz l := by
  have h : l.take (k + 1) ++ l.drop (k + 1) = l := List.take_append_drop _ _
  have h2 := congrArg M.wssz h
  rw [wssz_app, take_snoc hk, wssz_app] at h2
  have := (wssz_nn (l.drop (k + 1))).1
  simp only [M.wssz] at h2
  omega
theorem rd_app {α : Type} [Inhabited α] {l m : List α} {y : α} {k : Nat} (h : l.length = k) : rd (l ++ y :: m) (k : Int) = y := by
  subst h
  rw [rd_nat (by simp)]; simp
theorem set_app {α : Type} {l m : List α} {y z : α} {k : Nat} (h : l.length = k) : (l ++ y :: m).set k z = l ++ z :: m := by
  subst h; simp
theorem markWs_at {a : List D.Warp} {x : Int} {k : Nat} (hk : k < a.length) : rd (M.markWs a x) (k : Int) = M.markW (rd a (k : Int)) (x + M.wssz (a.take k)) := by
  have h : a = a.take k ++ (rd a (k : Int)) :: a.drop (k + 1) := by
    rw [rd_nat hk]; simp
  have hl : (M.markWs (a.take k) x).length = k := by rw [markWs_len]; simp; omega
  conv => lhs; rw [h]
  rw [markWs_app]
  simp only [M.markWs]
  exact rd_app hl
theorem wp.laws_markWarpS.math (a : List D.Warp) (x : Int) (h : M.laws_markWarpS_pre a x) : wp.laws_markWarpS a x (fun r => r = M.laws_markWarpS a x) := by
  unfold wp.laws_markWarpS
  obtain ⟨h0, h1⟩ := h
  have hlen := (wssz_nn a).2
  refine loop_n a.length (fun k => (x + M.wssz (a.take k), (k : Int), M.markWs (a.take k) x ++ a.drop k, ())) (fun _ => True) (by simp [M.wssz, M.markWs]) trivial (fun k hk hF next hn => ?_) fun hF next => ?_
  · have hle := wssz_le hk
    have hnn := (wssz_nn (a.take k)).1
    have hl : (M.markWs (a.take k) x).length = k := by rw [markWs_len]; simp; omega
    have hd : a.drop k = rd a (k : Int) :: a.drop (k + 1) := by rw [List.drop_eq_getElem_cons hk, rd_nat hk]
    have hn := hn trivial
    rw [take_snoc hk, wssz_app, markWs_app] at hn
    rw [hd]
    refine bcase_t (by simp; omega) ?_
    simp only [Int.toNat_natCast, set_app hl, rd_app hl]
    generalize rd a (k : Int) = y at *
    generalize a.drop (k + 1) = d at *
    simp only [M.wsz] at hle
    have hbase : M.markWs (a.take k) x ++ [M.markW y (x + M.wssz (a.take k))] ++ d = M.markWs (a.take k) x ++ M.markW y (x + M.wssz (a.take k)) :: d := by simp
    simp only [M.markWs, M.wssz] at hn
    rw [hbase] at hn
    have hL : ∀ z : D.Warp, 0 ≤ (k : Int) ∧ (k : Int) < (((M.markWs (a.take k) x ++ z :: d).length : Nat) : Int) := fun z => by simp [hl]; omega
    refine ⟨hL _, hL _, ?_⟩
    rw [w64 (x := x + M.wssz (a.take k) + 1) (by omega) (by omega)]
    refine ⟨⟨⟨by omega, by omega⟩, by unfold M.Few; omega⟩, fun r hr => ⟨hL _, ?_⟩⟩
    have hr1 : r.1 = x + M.wssz (a.take k) + 1 + 3 * y.Frames.length := by rw [hr]; rfl
    have hr2 : r.2 = M.seqFrame (x + M.wssz (a.take k) + 1) y.Frames.length := by rw [hr]; rfl
    refine ⟨⟨⟨by omega, by omega⟩, by unfold M.Few; omega⟩, fun r' hr' => ?_⟩
    have hr1' : r'.1 = x + (M.wssz (a.take k) + (M.wsz y + 0)) := by rw [hr', hr1]; simp only [M.laws_markIntS, M.wsz]; omega
    have hr2' : r'.2 = M.seqInt (x + M.wssz (a.take k) + 1 + 3 * y.Frames.length) y.Regs.length := by rw [hr', hr1]; rfl
    rw [hr1', hr2', hr2, up64 hk (by omega)]
    exact hn
  · refine bcase_f (by simp) ?_
    rw [List.take_length, List.drop_length, List.append_nil]; rfl
theorem seqIns_len (k : Int) (n : Nat) : (M.seqIns k n).length = n := by simp [M.seqIns]
theorem wp.laws_markBlock.math (b : D.Block) (x : Int) (h : M.laws_markBlock_pre b x) : wp.laws_markBlock b x (fun r => r = M.laws_markBlock b x) := by
  obtain ⟨h0, h1⟩ := h
  have := wssz_nn b.Warps
  simp only [M.bsz] at h1
  refine ⟨⟨⟨by omega, by omega⟩, by unfold M.Few; omega⟩, fun r hr => ?_⟩
  subst hr
  refine ⟨⟨by simp only [M.laws_markInsS]; omega, by simp only [M.laws_markInsS]; omega⟩, fun r hr => ?_⟩
  subst hr
  refine ⟨⟨⟨by simp only [M.laws_markInsS, M.laws_markWarpS]; omega, by simp only [M.laws_markInsS, M.laws_markWarpS]; omega⟩, by unfold M.Few; omega⟩, fun r hr => ?_⟩
  subst hr
  simp only [M.laws_markInsS, M.laws_markWarpS, M.laws_markIntS, M.laws_markBlock, M.markB, M.bsz]
  rw [show x + 4 * (b.Code.length : Int) + M.wssz b.Warps + (b.Memory.length : Int) = x + (4 * (b.Code.length : Int) + M.wssz b.Warps + (b.Memory.length : Int)) by omega]
theorem wp.laws_heldFrameS.math (a : List D.Frame) (x : Int) (h : M.laws_heldFrameS_pre a x) : wp.laws_heldFrameS a x (fun r => r = M.laws_heldFrameS a x) := by
  unfold wp.laws_heldFrameS
  obtain ⟨⟨h1, h2⟩, h3⟩ := h
  unfold M.Few at h3
  let g : Nat → D.Frame := fun i => ⟨x + 3 * (i : Int), x + 3 * (i : Int) + 1, x + 3 * (i : Int) + 2⟩
  refine loop_n a.length (fun k => (x + 3 * k, (k : Int), ())) (fun k => ∀ j : Nat, j < k → rd a j = g j) (by simp) (by simp) (fun k hk hF next hn => ?_) fun hF next => ?_
  · have e1 : IntKind.wrap .i64 (x + 3 * (k : Int) + 1) = x + 3 * (k : Int) + 1 := w64 (by omega) (by omega)
    have e2 : IntKind.wrap .i64 (x + 3 * (k : Int) + 1 + 1) = x + 3 * (k : Int) + 2 := by rw [w64 (by omega) (by omega)]; omega
    have e3 : IntKind.wrap .i64 (x + 3 * (k : Int) + 2 + 1) = x + 3 * ((k + 1 : Nat) : Int) := by rw [w64 (by omega) (by omega)]; push_cast; omega
    have bad : ∀ (P : Prop), (rd a k = g k → P) → ¬ P → -1 = M.laws_heldFrameS a x := fun P hp hn => (if_neg (ne_seq g hk (fun e => hn (hp e)))).symm
    refine bcase_t (by simp; omega) ?_
    simp only [e1, e2, e3, up64 hk (show a.length ≤ 9223372036854775807 by omega)]
    refine ⟨by omega, bcase_mk (fun f1 => ?_) fun f1 => ⟨by omega, bcase_mk (fun f2 => ?_) fun f2 => ⟨by omega, bcase_mk (fun f3 => ?_) fun f3 => ?_⟩⟩⟩
    · exact bad ((rd a k).Pc = x + 3 * (k : Int)) (fun e => by rw [e]) (by simpa using f1)
    · exact bad ((rd a k).Stop = x + 3 * (k : Int) + 1) (fun e => by rw [e]) (by simpa using f2)
    · exact bad ((rd a k).Mask = x + 3 * (k : Int) + 2) (fun e => by rw [e]) (by simpa using f3)
    · refine hn fun j hj => ?_
      by_cases hjk : j = k
      · subst hjk
        simp only [bne_eq_false_iff_eq] at f1 f2 f3
        show rd a (j : Int) = (⟨x + 3 * (j : Int), x + 3 * (j : Int) + 1, x + 3 * (j : Int) + 2⟩ : D.Frame)
        rw [← f3, ← f2, ← f1]
      · exact hF j (by omega)
  · exact bcase_f (by simp) (if_pos (eq_seq g hF)).symm
theorem wp.laws_heldInsS.math (a : List D.Ins) (x : Int) (h : M.laws_heldInsS_pre a x) : wp.laws_heldInsS a x (fun r => r = M.laws_heldInsS a x) := by
  unfold wp.laws_heldInsS
  obtain ⟨⟨h1, h2⟩, h3⟩ := h
  unfold M.Few at h3
  let g : Nat → D.Ins := fun i => ⟨x + 4 * (i : Int), x + 4 * (i : Int) + 1, x + 4 * (i : Int) + 2, x + 4 * (i : Int) + 3⟩
  refine loop_n a.length (fun k => (x + 4 * k, (k : Int), ())) (fun k => ∀ j : Nat, j < k → rd a j = g j) (by simp) (by simp) (fun k hk hF next hn => ?_) fun hF next => ?_
  · have e1 : IntKind.wrap .i64 (x + 4 * (k : Int) + 1) = x + 4 * (k : Int) + 1 := w64 (by omega) (by omega)
    have e2 : IntKind.wrap .i64 (x + 4 * (k : Int) + 1 + 1) = x + 4 * (k : Int) + 2 := by rw [w64 (by omega) (by omega)]; omega
    have e3 : IntKind.wrap .i64 (x + 4 * (k : Int) + 2 + 1) = x + 4 * (k : Int) + 3 := by rw [w64 (by omega) (by omega)]; omega
    have e4 : IntKind.wrap .i64 (x + 4 * (k : Int) + 3 + 1) = x + 4 * ((k + 1 : Nat) : Int) := by rw [w64 (by omega) (by omega)]; push_cast; omega
    have bad : ∀ (P : Prop), (rd a k = g k → P) → ¬ P → -1 = M.laws_heldInsS a x := fun P hp hn => (if_neg (ne_seq g hk (fun e => hn (hp e)))).symm
    refine bcase_t (by simp; omega) ?_
    simp only [e1, e2, e3, e4, up64 hk (show a.length ≤ 9223372036854775807 by omega)]
    refine ⟨by omega, bcase_mk (fun f1 => ?_) fun f1 => ⟨by omega, bcase_mk (fun f2 => ?_) fun f2 => ⟨by omega, bcase_mk (fun f3 => ?_) fun f3 => ⟨by omega, bcase_mk (fun f4 => ?_) fun f4 => ?_⟩⟩⟩⟩
    · exact bad ((rd a k).Op = x + 4 * (k : Int)) (fun e => by rw [e]) (by simpa using f1)
    · exact bad ((rd a k).A = x + 4 * (k : Int) + 1) (fun e => by rw [e]) (by simpa using f2)
    · exact bad ((rd a k).B = x + 4 * (k : Int) + 2) (fun e => by rw [e]) (by simpa using f3)
    · exact bad ((rd a k).C = x + 4 * (k : Int) + 3) (fun e => by rw [e]) (by simpa using f4)
    · refine hn fun j hj => ?_
      by_cases hjk : j = k
      · subst hjk
        simp only [bne_eq_false_iff_eq] at f1 f2 f3 f4
        show rd a (j : Int) = (⟨x + 4 * (j : Int), x + 4 * (j : Int) + 1, x + 4 * (j : Int) + 2, x + 4 * (j : Int) + 3⟩ : D.Ins)
        rw [← f4, ← f3, ← f2, ← f1]
      · exact hF j (by omega)
  · exact bcase_f (by simp) (if_pos (eq_seq g hF)).symm
theorem wp.laws_heldWarpS.math (a : List D.Warp) (x : Int) (h : M.laws_heldWarpS_pre a x) : wp.laws_heldWarpS a x (fun r => r = M.laws_heldWarpS a x) := by
  unfold wp.laws_heldWarpS
  obtain ⟨h0, h1⟩ := h
  have hlen := (wssz_nn a).2
  refine loop_n a.length (fun k => (x + M.wssz (a.take k), (k : Int), ())) (fun k => ∀ j : Nat, j < k → rd a j = rd (M.markWs a x) j) (by simp [M.wssz]) (by simp) (fun k hk hF next hn => ?_) fun hF next => ?_
  · have hle := wssz_le hk
    have hnn := (wssz_nn (a.take k)).1
    have hat := markWs_at (x := x) hk
    rw [take_snoc hk, wssz_app] at hn
    simp only [M.wssz] at hn
    have bad : ∀ (P : Prop), (rd a (k : Int) = M.markW (rd a (k : Int)) (x + M.wssz (a.take k)) → P) → ¬ P → -1 = M.laws_heldWarpS a x := fun P hp hn => by
      refine (if_neg fun e => hn (hp ?_)).symm
      rw [← hat, ← e]
    have good : rd a (k : Int) = M.markW (rd a (k : Int)) (x + M.wssz (a.take k)) → next (x + (M.wssz (a.take k) + (M.wsz (rd a (k : Int)) + 0)), ((k + 1 : Nat) : Int), ()) := fun e => hn fun j hj => by
      by_cases hjk : j = k
      · subst hjk; rw [hat]; exact e
      · exact hF j (by omega)
    simp only [M.wsz] at hle
    refine bcase_t (by simp; omega) ⟨by omega, ?_⟩
    generalize rd a (k : Int) = y at *
    refine bcase_mk (fun f1 => ?_) fun f1 => ⟨by omega, ?_⟩
    · exact bad (y.Number = x + M.wssz (a.take k)) (fun e => by rw [e]; rfl) (by simpa using f1)
    have f1 : y.Number = x + M.wssz (a.take k) := by simpa using f1
    rw [w64 (x := x + M.wssz (a.take k) + 1) (by omega) (by omega)]
    refine ⟨⟨⟨by omega, by omega⟩, by unfold M.Few; omega⟩, fun r hr => ?_⟩
    by_cases f2 : y.Frames = M.seqFrame (x + M.wssz (a.take k) + 1) y.Frames.length
    · have hr1 : r = x + M.wssz (a.take k) + 1 + 3 * y.Frames.length := by rw [hr]; unfold M.laws_heldFrameS; rw [if_pos f2]
      refine bcase_f (by simp; omega) ⟨by omega, ⟨⟨by omega, by omega⟩, by unfold M.Few; omega⟩, fun r' hr' => ?_⟩
      by_cases f3 : y.Regs = M.seqInt (x + M.wssz (a.take k) + 1 + 3 * y.Frames.length) y.Regs.length
      · have hr1' : r' = x + (M.wssz (a.take k) + (M.wsz y + 0)) := by rw [hr', hr1]; unfold M.laws_heldIntS; rw [if_pos f3]; simp only [M.wsz]; omega
        refine bcase_f (by simp only [hr1', M.wsz]; simp; omega) ?_
        rw [hr1', up64 hk (by omega)]
        refine good ?_
        show y = ⟨x + M.wssz (a.take k), M.seqFrame (x + M.wssz (a.take k) + 1) y.Frames.length, M.seqInt (x + M.wssz (a.take k) + 1 + 3 * y.Frames.length) y.Regs.length⟩
        rw [← f3, ← f2, ← f1]
      · have hr1' : r' = -1 := by rw [hr', hr1]; unfold M.laws_heldIntS; rw [if_neg f3]
        refine bcase_t (by rw [hr1']; rfl) ?_
        exact bad (y.Regs = M.seqInt (x + M.wssz (a.take k) + 1 + 3 * y.Frames.length) y.Regs.length) (fun e => by
          have := congrArg D.Warp.Regs e
          simpa only [M.markW] using this) f3
    · have hr1 : r = -1 := by rw [hr]; unfold M.laws_heldFrameS; rw [if_neg f2]
      refine bcase_t (by rw [hr1]; rfl) ?_
      exact bad (y.Frames = M.seqFrame (x + M.wssz (a.take k) + 1) y.Frames.length) (fun e => by
        have := congrArg D.Warp.Frames e
        simpa only [M.markW] using this) f2
  · refine bcase_f (by simp) ?_
    have : a = M.markWs a x := eq_of_takes (by rw [markWs_len]) hF
    rw [List.take_length]
    exact (if_pos this).symm
theorem wp.laws_heldBlock.math (b : D.Block) (x : Int) (h : M.laws_heldBlock_pre b x) : wp.laws_heldBlock b x (fun r => r = M.laws_heldBlock b x) := by
  obtain ⟨h0, h1⟩ := h
  have hw := wssz_nn b.Warps
  simp only [M.bsz] at h1
  refine ⟨⟨⟨by omega, by omega⟩, by unfold M.Few; omega⟩, fun r hr => ?_⟩
  have bad : ∀ (P : Prop), (b = M.markB b x → P) → ¬ P → -1 = M.laws_heldBlock b x := fun P hp hn => (if_neg fun e => hn (hp e)).symm
  by_cases f1 : b.Code = M.seqIns x b.Code.length
  · have hr1 : r = x + 4 * b.Code.length := by rw [hr]; unfold M.laws_heldInsS; rw [if_pos f1]
    refine bcase_f (by simp; omega) ⟨⟨by omega, by omega⟩, fun r2 hr2 => ?_⟩
    by_cases f2 : b.Warps = M.markWs b.Warps (x + 4 * b.Code.length)
    · have hr3 : r2 = x + 4 * b.Code.length + M.wssz b.Warps := by rw [hr2, hr1]; unfold M.laws_heldWarpS; rw [if_pos f2]
      refine bcase_f (by simp; omega) ⟨⟨⟨by omega, by omega⟩, by unfold M.Few; omega⟩, fun r4 hr4 => ?_⟩
      by_cases f3 : b.Memory = M.seqInt (x + 4 * b.Code.length + M.wssz b.Warps) b.Memory.length
      · have hr5 : r4 = x + 4 * b.Code.length + M.wssz b.Warps + b.Memory.length := by rw [hr4, hr3]; unfold M.laws_heldIntS; rw [if_pos f3]
        refine bcase_f (by simp; omega) ?_
        have : b = M.markB b x := by
          cases b
          simp only [M.markB] at *
          rw [← f1, ← f2, ← f3]
        rw [hr5, M.laws_heldBlock, if_pos this, M.bsz]; omega
      · have hr5 : r4 = -1 := by rw [hr4, hr3]; unfold M.laws_heldIntS; rw [if_neg f3]
        refine bcase_t (by rw [hr5]; rfl) (bad _ (fun e => ?_) f3)
        have := congrArg D.Block.Memory e
        simpa only [M.markB] using this
    · have hr3 : r2 = -1 := by rw [hr2, hr1]; unfold M.laws_heldWarpS; rw [if_neg f2]
      refine bcase_t (by rw [hr3]; rfl) (bad _ (fun e => ?_) f2)
      have := congrArg D.Block.Warps e
      simpa only [M.markB] using this
  · have hr1 : r = -1 := by rw [hr]; unfold M.laws_heldInsS; rw [if_neg f1]
    refine bcase_t (by rw [hr1]; rfl) (bad _ (fun e => ?_) f1)
    have := congrArg D.Block.Code e
    simpa only [M.markB] using this
theorem markB_len (b : D.Block) (x : Int) : (M.markB b x).Code.length = b.Code.length ∧ (M.markB b x).Memory.length = b.Memory.length := ⟨seqIns_len _ _, by simp [M.markB, M.seqInt]⟩
theorem markWs_sz : ∀ (l : List D.Warp) (k : Int), M.wssz (M.markWs l k) = M.wssz l
  | [], k => rfl
  | x :: l, k => by
    simp only [M.markWs, M.wssz, markWs_sz l]
    simp [M.wsz, M.markW, M.seqFrame, M.seqInt]
theorem markWs_idem : ∀ (l : List D.Warp) (k : Int), M.markWs (M.markWs l k) k = M.markWs l k
  | [], k => rfl
  | x :: l, k => by
    simp only [M.markWs]
    have hw : M.wsz (M.markW x k) = M.wsz x := by simp [M.wsz, M.markW, M.seqFrame, M.seqInt]
    rw [hw, markWs_idem l]
    congr 1
    simp [M.markW, M.seqFrame, M.seqInt]
theorem markB_idem (b : D.Block) (x : Int) : M.markB (M.markB b x) x = M.markB b x := by
  have h1 := markB_len b x
  have h2 : M.wssz (M.markB b x).Warps = M.wssz b.Warps := markWs_sz _ _
  unfold M.markB at *
  simp only [seqIns_len, markWs_sz, markWs_idem] at *
  simp [M.seqInt]
theorem markB_sz (b : D.Block) (x : Int) : M.bsz (M.markB b x) = M.bsz b := by
  have h1 := markB_len b x
  have h2 : M.wssz (M.markB b x).Warps = M.wssz b.Warps := markWs_sz _ _
  unfold M.bsz
  rw [h1.1, h1.2, h2]
theorem held_mark (b : D.Block) (x : Int) : M.laws_heldBlock (M.markB b x) x = x + M.bsz b := by
  unfold M.laws_heldBlock
  rw [if_pos (markB_idem b x).symm, markB_sz]
/-- a small block -/
theorem new_small (p : List D.Ins) (c : Int) : (M.blockNew p c).1.Code.length ≤ 32 ∧ (M.blockNew p c).1.Warps.length ≤ 3 ∧ (∀ x ∈ (M.blockNew p c).1.Warps, x.Frames.length ≤ 1 ∧ x.Regs.length = 32) ∧ (M.blockNew p c).1.Memory.length ≤ 32 := by
  unfold M.blockNew
  split
  · rename_i h
    simp only [Bool.and_eq_true, M.isIn, decide_eq_true_eq] at h
    have := prog_short h.1
    refine ⟨this, by simp [M.newBlock]; omega, fun x hx => ?_, by simp [M.newBlock]⟩
    simp only [M.newBlock, List.mem_map] at hx
    obtain ⟨k, _, rfl⟩ := hx
    simp only [M.newWarp]
    exact ⟨by split <;> simp, by simp⟩
  · simp [M.noBlock]
theorem wssz_small : ∀ (l : List D.Warp), (∀ x ∈ l, x.Frames.length ≤ 1 ∧ x.Regs.length = 32) → M.wssz l ≤ 36 * l.length
  | [], h => by simp [M.wssz]
  | x :: l, h => by
    have h1 := wssz_small l fun y hy => h y (List.mem_cons_of_mem _ hy)
    have h2 := h x List.mem_cons_self
    simp only [M.wssz, M.wsz, List.length_cons]; omega
theorem wp.laws_FnExactBlockNew.math (p : List D.Ins) (c : Int) (h : M.laws_FnExactBlockNew_pre p c) : wp.laws_FnExactBlockNew p c (fun r => r = M.laws_FnExactBlockNew p c) := by
  refine ⟨⟨by omega, by omega, h⟩, fun r hr => bcase_mk (fun _ => rfl) fun e => ?_⟩
  have hl : p.length ≤ 1048576 := by
    rw [hr] at e
    simp only [M.laws_szInsS] at e
    split at e
    · simp at e
    · omega
  have hs : M.laws_toInsS_pre p := by unfold M.laws_toInsS_pre; omega
  obtain ⟨n1, n2, n3, n4⟩ := new_small p c
  have n5 := wssz_small _ n3
  have n6 := (wssz_nn (M.blockNew p c).1.Warps).1
  have hB : M.BLong (M.blockNew p c).1 := by
    unfold M.BLong M.WsLong M.WLong M.Long
    exact ⟨by omega, ⟨by omega, fun x hx => by have := n3 x hx; omega⟩, by omega⟩
  have q1 : M.laws_markInsS_pre p 1 := ⟨⟨by omega, by omega⟩, by unfold M.Few; omega⟩
  have q2 : M.laws_markBlock_pre (M.blockNew p c).1 1 := ⟨by omega, by unfold M.bsz; omega⟩
  have q3 : M.laws_heldBlock_pre (M.markB (M.blockNew p c).1 1) 1 := ⟨by omega, by rw [markB_sz]; unfold M.bsz; omega⟩
  have b1 : decide (1 + 4 * (p.length : Int) < 0) = false := by simp; omega
  have b2 : decide (1 + M.bsz (M.blockNew p c).1 < 0) = false := decide_eq_false (by unfold M.bsz; omega)
  have em : (⟨(M.markB (M.blockNew p c).1 1).Code, (M.markB (M.blockNew p c).1 1).Warps, (M.markB (M.blockNew p c).1 1).Memory, (M.blockNew p c).1.Waiting, (M.blockNew p c).1.Phase⟩ : D.Block) = M.markB (M.blockNew p c).1 1 := rfl
  simp only [M.laws_toInsS, forall_eq, M.spec_BlockNew, M.impl_BlockNew, M.laws_eqBlock, M.laws_eqInsS, M.laws_markInsS, M.laws_markBlock, em, held_mark, beq_self_eq_true, bne_self_eq_false, Bool.not_true, b1, b2, bcase]
  exact ⟨hs, h, hs, h, hB, hs, h, q1, hB, q2, q3, hs, h, hB, q3, rfl⟩
theorem wp.spec_l12Copy.math (x : D.Warp) (h : M.spec_l12Copy_pre x) : wp.spec_l12Copy x (fun r => r = M.spec_l12Copy x) := by
  obtain ⟨h1, h2⟩ := h
  unfold wp.spec_l12Copy
  simp only [List.nil_append, List.length_nil, Nat.zero_add, h1, h2, true_and, and_true, and_self, M.spec_l12Copy]
theorem wp.spec_l29Copy.math (b : D.Block) (h : M.spec_l29Copy_pre b) : wp.spec_l29Copy b (fun r => r = M.spec_l29Copy b) := by
  obtain ⟨h1, ⟨h2, hW⟩, h3⟩ := h
  unfold wp.spec_l29Copy
  simp only [List.nil_append, List.length_nil, Nat.zero_add]
  refine joinP_of (b.Code, [], b.Memory, b.Waiting, b.Phase, ()) ?_ fun J hJ => by simp only [h1, h3, hJ, true_and, and_true, and_self]
  refine loop_n b.Warps.length (fun k => ((k : Int), b.Warps.take k, b.Waiting, b.Phase, ())) (fun _ => True) rfl trivial (fun k hk _ next hn => ?_) fun _ next => ?_
  · refine bcase_t (by simp; omega) ⟨by omega, hW _ (rd_mem hk), fun r hr => ⟨by simp; omega, ?_⟩⟩
    rw [up64 hk (by omega), hr]
    have := hn trivial
    rw [List.take_add_one, List.getElem?_eq_getElem hk, Option.toList_some] at this
    rw [rd_nat hk]; exact this
  · refine bcase_f (by simp) ?_
    rw [List.take_length]; rfl
theorem fit_long {b : D.Block} (h : M.BFit b) : M.BLong b := by
  obtain ⟨h1, ⟨h2, hW⟩, h3⟩ := h
  unfold M.BLong M.WsLong M.WLong M.Long
  exact ⟨by omega, ⟨by omega, fun x hx => by have := hW x hx; unfold M.WFit at this; omega⟩, by omega⟩
theorem small_fit {b : D.Block} (h : M.BSmall b) : M.BFit b := by
  obtain ⟨h1, ⟨h2, hW⟩, h3⟩ := h
  exact ⟨by omega, ⟨by omega, fun x hx => by have := hW x hx; unfold M.WSmall at this; unfold M.WFit; omega⟩, by omega⟩
theorem wp.spec_WithMemory.math (b : D.Block) (m : List Int) (h : M.spec_WithMemory_pre b m) : wp.spec_WithMemory b m (fun r => r = M.spec_WithMemory b m) := by
  obtain ⟨h, hm⟩ := h
  have hL := fit_long h
  unfold wp.spec_WithMemory
  simp only [lenB]
  refine ⟨h, fun r hr => ⟨hL, fun r2 hr2 => bcase_mk (fun e => ?_) fun e => bcase_mk (fun e2 => ?_) fun e2 => ⟨by show m.length ≤ 9223372036854775807; omega, fun r3 hr3 => bcase_mk (fun e3 => ?_) fun e3 => ⟨by simpa using hm, ?_⟩⟩⟩⟩
  all_goals simp only [M.spec_l29Copy, M.spec_BlockOk, M.spec_AreWords] at *
  · subst hr; simp [M.spec_WithMemory, M.withMemory, nt e hr2]
  · have : (m.length == 32) = false := by simpa using e2
    subst hr; simp [M.spec_WithMemory, M.withMemory, M.impl_isMemory, this]
  · subst hr; simp [M.spec_WithMemory, M.withMemory, M.impl_isMemory, nt e3 hr3]
  · have : (m.length == 32) = true := by simpa using e2
    subst hr; simp [M.spec_WithMemory, M.withMemory, M.impl_isMemory, nf e hr2, nf e3 hr3, this]
theorem wssz_bound : ∀ (l : List D.Warp), (∀ x ∈ l, M.WSmall x) → M.wssz l ≤ 8388609 * l.length
  | [], h => by simp [M.wssz]
  | x :: l, h => by
    have h1 := wssz_bound l fun y hy => h y (List.mem_cons_of_mem _ hy)
    have h2 := h x List.mem_cons_self
    unfold M.WSmall at h2
    simp only [M.wssz, M.wsz, List.length_cons]; omega
theorem bsz_bound {b : D.Block} (h : M.BSmall b) : 0 ≤ M.bsz b ∧ M.bsz b ≤ 17592190238720 + 10485760 + 2097152 := by
  obtain ⟨h1, ⟨h2, hW⟩, h3⟩ := h
  have := wssz_bound _ hW
  have := (wssz_nn b.Warps).1
  unfold M.bsz
  omega
theorem with_small {b : D.Block} {m : List Int} (h : M.BSmall b) (hm : m.length ≤ 2097152) : M.BSmall (M.withMemory b m).1 := by
  unfold M.withMemory
  split
  · exact ⟨h.1, h.2.1, hm⟩
  · exact h
theorem wp.laws_FnExactWithMemory.math (b : D.Block) (m : List Int) (h : M.laws_FnExactWithMemory_pre b m) : wp.laws_FnExactWithMemory b m (fun r => r = M.laws_FnExactWithMemory b m) := by
  obtain ⟨h, hm⟩ := h
  refine bcase_mk (fun _ => rfl) fun em => ⟨⟨by unfold M.Left; omega, h⟩, fun r hr => bcase_mk (fun _ => rfl) fun e => ?_⟩
  have hml : m.length ≤ 1048576 := by simp at em; omega
  obtain ⟨hs, hl⟩ := sz_small hr e
  have hf := small_fit hs
  have q0 : M.laws_toIntS_pre m := by show m.length ≤ 2097152; omega
  have q1 : M.spec_WithMemory_pre b m := ⟨hf, by omega⟩
  have q2 : M.impl_WithMemory_pre b m := q1
  have hws := with_small (m := m) hs (by omega)
  have hwl := small_long hws
  have s1 := bsz_bound hs
  have s2 := bsz_bound hws
  have q3 : M.laws_eqIntS_pre m m := by show m.length ≤ 9223372036854775807; omega
  have q4 : M.laws_markBlock_pre b 1 := ⟨by omega, by omega⟩
  have q5 : M.laws_markIntS_pre m (1 + M.bsz b) := ⟨⟨by omega, by omega⟩, by unfold M.Few; omega⟩
  have q6 : M.laws_markBlock_pre (M.withMemory b m).1 1 := ⟨by omega, by omega⟩
  have q7 : M.laws_heldBlock_pre (M.markB (M.withMemory b m).1 1) 1 := ⟨by omega, by rw [markB_sz]; omega⟩
  have b1 : decide (1 + M.bsz b + (m.length : Int) < 0) = false := decide_eq_false (by omega)
  have b2 : decide (1 + M.bsz (M.withMemory b m).1 < 0) = false := decide_eq_false (by omega)
  have ew : (⟨(M.markB (M.withMemory b m).1 1).Code, (M.markB (M.withMemory b m).1 1).Warps, (M.markB (M.withMemory b m).1 1).Memory, (M.withMemory b m).1.Waiting, (M.withMemory b m).1.Phase⟩ : D.Block) = M.markB (M.withMemory b m).1 1 := rfl
  simp only [M.laws_toBlock, M.laws_toIntS, forall_eq, M.spec_WithMemory, M.impl_WithMemory, M.laws_eqBlock, M.laws_eqIntS, M.laws_markIntS, M.laws_markBlock, ew, held_mark, beq_self_eq_true, bne_self_eq_false, Bool.not_true, b1, b2, bcase]
  exact ⟨hs, q0, q1, hs, q0, q2, hwl, hs, hl, q0, q3, q4, q5, hwl, q6, q7, hs, q0, q2, hwl, q7, rfl⟩
end Go.V
