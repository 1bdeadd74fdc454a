import Derived.Test.YtkpfabigipedcaaNoVCopy
import Derived.Test.YtkpfabigipedcaaNoVCut
set_option linter.unusedVariables false
set_option linter.unusedSimpArgs false
namespace Go.V
open Go.RowKit (Below)
theorem qfT {α : Type} [Inhabited α] (E : El α) (n : Nat) : Builtin.zeroCells (E.enc (default : α)).toArray n = (flat E (List.replicate n (default : α))).toArray := by
 apply Array.ext'
 rw [qfF]
theorem qgu {P : Program} {α : Type} [Inhabited α] {E : El α} {t1 t2 ty : TypeId} (T : SlT P E t1) (h2 : P.underlying t2 = some (.int .i64)) (hE : 0 < E.sz) {w : World} {c m : Nat} {A : Option Addr} {xs : List α}
    {n : Nat} (hn : n = xs.length) (hR : Row E w A xs) (hm : 1 ≤ m) (hc : ¬ xs.length + m ≤ c) (hl : xs.length + m ≤ 17179869184) {k : Option Addr → Nat → Nat → World → Prop}
    (h : ∀ A' c' w', Own E w' w.heap.size A' c' (xs ++ List.replicate m (default : α)) → Ext w w' → k A' (n + m) c' w') :
    Run P (Builtin.append_ #[t1, t2] ty #[.slice A n c, .int .i64 (m : Int)]) w fun v w' => ∃ (A' : Option Addr) (n' c' : Nat), v = .slice A' n' c' ∧ k A' n' c' w' := by
 subst hn
 obtain ⟨inf, z, hi, hsz, hz, hzz, hby, hby0⟩ := T.info
 have hu := T.under
 have hw : IntKind.i64.wrap (m : Int) = (m : Int) := qcs (by omega) (by omega)
 have room : ∀ (n : Nat) (w : World), (askRoom n).run P w = .ok () w := by
  intro n w; unfold askRoom; split <;> simp [mark, Sem.run, pure]
 have hbytes : ¬ ((m : Int) * (inf.bytes : Int) > 2 ^ 48) := by
  have : (m : Int) * (inf.bytes : Int) ≤ 17179869184 * 1024 := Int.mul_le_mul (by omega) (by omega) (by omega) (by omega)
  omega
 have hcap := nextslicecap_le (need := xs.length + m) (c := c) (by omega)
 have t1' : ¬ (Builtin.nextslicecap (xs.length + m) c * inf.bytes > 2 ^ 48) := by
  have := Nat.mul_le_mul (Nat.le_refl (Builtin.nextslicecap (xs.length + m) c)) hby
  generalize Builtin.nextslicecap (xs.length + m) c = q at *
  generalize q * inf.bytes = p at *
  omega
 have hmx : ¬ (((xs.length + m : Nat) : Int) > IntKind.i64.max) := by
  have : IntKind.i64.max = 9223372036854775807 := by decide
  omega
 have hms : ¬ m * E.sz = 0 := by
  have := Nat.mul_pos (show 0 < m by omega) hE
  omega
 have head : (Builtin.append_ #[t1, t2] ty #[.slice A xs.length c, .int .i64 (m : Int)]).run P w =
     ((choose (.appendCap (xs.length + m) c E.tid)).bind fun newCap => (askRoom (newCap * inf.bytes)).bind fun _ =>
      (Builtin.firstCells E.sz xs.length (.slice A xs.length c)).bind fun old =>
       (newRow E.tid (old ++ Builtin.zeroCells z.cells m ++ Builtin.zeroCells z.cells (newCap - (xs.length + m)))).bind fun a => .pure (.slice (some a) (xs.length + m) newCap)).run P w := by
  have hneg : ¬ ((m : Int) < 0) := by omega
  have hai : asIntOf (.int .i64 (m : Int)) = .pure (.i64, (m : Int)) := rfl
  have hmx2 : ¬ (9223372036854775807 : Int) < (xs.length : Int) + (m : Int) := by omega
  have hb2 : ¬ (281474976710656 : Int) < (m : Int) * (inf.bytes : Int) := by omega
  have ht2 : ¬ 281474976710656 < Builtin.nextslicecap (xs.length + m) c * inf.bytes := by omega
  simp [Builtin.append_, underlying, typeInfo, sizeOf, program, bind, Sem.bind, Sem.run, Sem.run_bind', hu, h2, hi, hsz, hz, pure, asInt, hai, hw, hneg, hb2, hc, hmx2, Result.andThen, ht2, hby0, zeroValue, hms]
 rw [Run, head]
 have hch : (choose (.appendCap (xs.length + m) c E.tid)).run P w = .ok (xs.length + m + w.tape w.drawn (.appendCap (xs.length + m) c E.tid) % (2 ^ 63 - (xs.length + m))) w.drew := by
  simp only [choose, Sem.run, Question.forced, Question.cut]; rfl
 rw [Sem.run_bind', hch]
 simp only [Result.andThen]
 generalize w.tape w.drawn (.appendCap (xs.length + m) c E.tid) % (2 ^ 63 - (xs.length + m)) = q
 have ho' := qbx (P := P) (hR.ext (Ext.drew w)) (c := c)
 simp only [Sem.run_bind', room, Result.andThen, ho', newRow, newObj, bind, Sem.bind, Sem.run, pure]
 refine ⟨_, _, rfl, some ⟨w.heap.size, 0, none⟩, _, _, rfl, h _ _ _ ?_ ((Below.refl _ _).drew.alloc (by simp) _)⟩
 have hz2 : Builtin.zeroCells z.cells m = (flat E (List.replicate m (default : α))).toArray := by rw [hzz]; exact qfT E m
 have hlen : (List.replicate m (default : α)).length = m := List.length_replicate
 rw [hz2]
 generalize List.replicate m (default : α) = ys at *
 refine .blk (Nat.le_refl _) (cs := (flat E xs).toArray ++ (flat E ys).toArray ++ Builtin.zeroCells z.cells (xs.length + m + q - (xs.length + m))) ?_ (by rw [List.length_append, hlen]; omega) ?_ ?_
 ·show (w.drew.heap.push _)[w.heap.size]? = _
  rw [show w.heap.size = w.drew.heap.size from rfl, Array.getElem?_push_size]
 ·have hzc : z.cells.size = E.sz := by rw [hzz]; simp [E.len]
  simp only [Array.size_append, List.size_toArray, qaL, qdb, hzc, hlen]
  rw [← Nat.add_mul, ← Nat.add_mul, Nat.zero_add]
  exact Nat.le_of_eq (congrArg (· * E.sz) (by omega))
 ·intro j x hj i v hi
  have hi' := E.lt hi
  have hjl : j < xs.length + m := by have := (List.getElem?_eq_some_iff.1 hj).1; rw [List.length_append, hlen] at this; exact this
  have e2 : j * E.sz + E.sz ≤ (xs.length + m) * E.sz := by rw [← Nat.succ_mul]; exact Nat.mul_le_mul_right _ hjl
  rw [Nat.add_mul] at e2
  rw [Array.getElem?_append_left (by simp [qaL, hlen]; omega)]
  by_cases hjx : j < xs.length
  ·rw [List.getElem?_append_left hjx] at hj
   have e3 : j * E.sz + E.sz ≤ xs.length * E.sz := by rw [← Nat.succ_mul]; exact Nat.mul_le_mul_right _ hjx
   rw [Array.getElem?_append_left (by simp [qaL]; omega)]
   simp only [Nat.zero_add, List.getElem?_toArray]
   exact flat_get E xs j i x v hj hi
  ·rw [List.getElem?_append_right (by omega)] at hj
   have e1 : j * E.sz = xs.length * E.sz + (j - xs.length) * E.sz := by rw [← Nat.add_mul]; congr 1; omega
   rw [Array.getElem?_append_right (by simp [qaL]; omega)]
   simp only [Nat.zero_add, List.getElem?_toArray, List.size_toArray, qaL]
   rw [show j * E.sz + i - xs.length * E.sz = (j - xs.length) * E.sz + i by omega]
   exact flat_get E ys _ i x v hj hi
theorem qeB {P : Program} {α : Type} {E : El α} {t1 t2 ty : TypeId} {inf : TypeInfo} (h1 : P.underlying t1 = some (.slice E.tid)) (hi : P.info? E.tid = some inf) (hsz : inf.size = E.sz)
    {w : World} {B c d dLen dCap m c2 : Nat} {A A2 : Option Addr} {a : Addr} {xs ys : List α} (h : Own E w B A c xs) (ha : A = some a) (hR : Row E w A2 ys) (n : Nat) (hn : n = Nat.min m dLen) (hny : n ≤ ys.length) (hd : d ≤ xs.length) (hdc : d + n ≤ c)
    (hm : n ≤ 17179869184) {k : Int → World → Prop}
    (hk : ∀ w1, Own E w1 B A c (xs.take d ++ (ys.take n ++ xs.drop (d + n))) → ChgB a.block w w1 → k (n : Int) w1) :
    Run P (Builtin.copy_ #[t1, t2] ty #[.slice (some (a.add (d * E.sz))) dLen dCap, .slice A2 m c2]) w fun v w' => ∃ n : Int, v = .int .i64 n ∧ k n w' := by
 cases h with
 | nil => cases ha
 | @blk g o c xs cs hB hb hc hz hx =>
  cases ha
  have hmul : (d + n) * E.sz ≤ c * E.sz := Nat.mul_le_mul_right _ hdc
  rw [Nat.add_mul] at hmul
  rw [qbr]
  have hlen : (ys.take n).length = n := by rw [List.length_take]; omega
  have hfl : (flat E (ys.take n)).length = n * E.sz := by rw [qaL, hlen]
  have hst : qag (⟨g, o + d * E.sz, none⟩ : Addr) (flat E (ys.take n)) 0 w (k (n : Int)) := by
   refine qcb hb rfl rfl (by rw [hfl]; omega) (List.all_eq_true.2 (qez E _)) fun w1 hb1 hch => ?_
   refine hk w1 (.blk hB hb1 (by simp; omega) (by rw [qcM]; exact hz) fun j x hj i v hv => ?_) hch
   have hi' := E.lt hv
   rw [qd8, hfl]
   by_cases hjd : j < d
   ·have hjm : j * E.sz + E.sz ≤ d * E.sz := by rw [← Nat.succ_mul]; exact Nat.mul_le_mul_right _ hjd
    rw [if_neg (by omega)]
    rw [List.getElem?_append_left (by simp; omega), List.getElem?_take_of_lt hjd] at hj
    exact hx j x hj i v hv
   ·have hjd' : d * E.sz ≤ j * E.sz := Nat.mul_le_mul_right _ (by omega)
    rw [List.getElem?_append_right (by simp; omega)] at hj
    have e1 : (xs.take d).length = d := by rw [List.length_take]; omega
    rw [e1] at hj
    by_cases hjn : j < d + n
    ·have hjm : j * E.sz + E.sz ≤ (d + n) * E.sz := by rw [← Nat.succ_mul]; exact Nat.mul_le_mul_right _ hjn
     rw [Nat.add_mul] at hjm
     rw [List.getElem?_append_left (by rw [hlen]; omega)] at hj
     rw [if_pos (by omega)]
     have := flat_get E (ys.take n) (j - d) i x v hj hv
     rw [Nat.sub_mul] at this
     rw [← this]; congr 1; omega
    ·have hjm : (d + n) * E.sz ≤ j * E.sz := Nat.mul_le_mul_right _ (by omega)
     rw [Nat.add_mul] at hjm
     rw [if_neg (by omega)]
     rw [List.getElem?_append_right (by rw [hlen]; omega), hlen, List.getElem?_drop] at hj
     have : d + n + (j - d - n) = j := by omega
     rw [this] at hj
     exact hx j x hj i v hv
  obtain ⟨w', hr, hk'⟩ := qcn (P := P) _ _ _ _ hst
  refine ⟨_, w', ?_, _, rfl, hk'⟩
  have hf := qdZ (P := P) (c := c2) (m := m) hR hny
  have hw : IntKind.wrap .i64 (n : Int) = (n : Int) := qcs (by omega) (by omega)
  unfold Builtin.copy_
  rw [hn] at hf hr hw ⊢
  simp only [List.getElem?_toArray, List.getElem?_cons_zero, List.getElem?_cons_succ, bind, Sem.bind, Sem.run_bind', underlying, program, Sem.run, h1, Result.andThen, Builtin.lenOf, pure, sizeOf, typeInfo, hi, hsz, hf, hr, goInt, hw]
theorem qdQ {P : Program} {α β : Type} {s : Sem α} {k : α → Sem β} {x : α} {w : World} {r : Result β} (hs : s.run P w = .ok x w) (h : (k x).run P w = r) : (s >>= k).run P w = r := by
 show (s.bind k).run P w = r
 rw [Sem.run_bind', hs]
 exact h
theorem qfd {P : Program} {t t' : TypeId} {elem : TypeId} {inf : TypeInfo} (h1 : P.underlying t = some (.slice elem)) (hi : P.info? elem = some inf) {w : World} {a b : Addr} {n1 c1 n2 c2 : Nat} {v : Value} {T : Nat} {cs : Array Value} {rs : Array TypeId}
    (ha : w.cell? a = some v) (hb : Blk w b.block T cs) (hne : a.block ≠ b.block) :
    (Extern.SlicesOverlaps.overlaps #[t, t'] rs #[.slice (some a) n1 c1, .slice (some b) n2 c2]).run P w = .ok (.bool false) w := by
 have hfb : ∀ o s, w.frozen? ⟨b.block, o, s⟩ = false := fun o s => by
  unfold Blk at hb; simp [World.frozen?, hb]
 have hfb' : w.frozen? b = false := by unfold Blk at hb; simp [World.frozen?, hb]
 have hsb : w.shape? b.block = some (T, cs.size) := by unfold Blk at hb; simp [World.shape?, hb]
 obtain ⟨T2, cs2, fz, hab⟩ : ∃ T2 cs2 fz, w.heap[a.block]? = some (.cells cs2 T2 fz) ∧ cs2.size ≠ 0 := by
  unfold World.cell? at ha
  split at ha
  ·rename_i cs2 T2 fz e
   refine ⟨T2, cs2, fz, e, fun h0 => ?_⟩
   split at ha
   ·cases ha
   ·have := (Array.getElem?_eq_some_iff.1 ha).1; omega
  ·cases ha
 have hsa : w.shape? a.block = some (T2, cs2.size) := by simp [World.shape?, hab.1]
 have hne' : (a.block != b.block) = true := by simpa using hne
 have heq : (a.block == b.block) = false := by simpa using hne
 have view : ∀ x : Addr, ∀ q, w.shape? x.block = some q → (noView x).run P w = .ok () w := fun x q e => by
  simp [noView, viewAt, shape, bind, Sem.bind, Sem.run, Sem.run_bind', e, Result.andThen, pure]
 have hs0 : (stringish b).run P w = .ok false w := by
  simp [stringish, frozen, shape, bind, Sem.bind, Sem.run, Sem.run_bind', hfb', hsb, hfb, Result.andThen, pure]
 have hmb : (mayBeOne a b).run P w = .ok false w := by
  have hsa0 : ∃ q, (stringish a).run P w = .ok q w := by
   unfold stringish
   cases hf : w.frozen? a with
   | true => exact ⟨true, by simp [frozen, bind, Sem.bind, Sem.run, Sem.run_bind', hf, pure]⟩
   | false => exact ⟨_, by simp [frozen, shape, bind, Sem.bind, Sem.run, Sem.run_bind', hf, hsa, Result.andThen, pure]; rfl⟩
  obtain ⟨q, hq⟩ := hsa0
  have na : ∀ (x : Addr) (T n : Nat), w.shape? x.block = some (T, n) → ((shape x.block) >>= fun s => (pure (match s with | some (_, 0) => true | _ => false) : Sem Bool)).run P w = .ok (match n with | 0 => true | _ => false) w := fun x T n e => by
   refine qdQ (x := some (T, n)) (by simp [shape, Sem.run, e]) ?_
   cases n <;> rfl
  unfold mayBeOne
  refine qdQ (s := stringish a) hq (qdQ (s := stringish b) hs0 ?_)
  refine qdQ (na a _ _ hsa) (qdQ (na b _ _ hsb) ?_)
  cases h : cs2.size with
  | zero => exact absurd h hab.2
  | succ n => cases q <;> rfl
 refine qdQ (s := underlying t) (x := .slice elem) (by simp [underlying, program, bind, Sem.bind, Sem.run, h1, pure]) ?_
 refine qdQ (s := sizeOf elem) (x := inf.size) (by simp [sizeOf, typeInfo, program, bind, Sem.bind, Sem.run, hi, pure]) ?_
 by_cases h0 : n1 = 0 ∨ n2 = 0 ∨ inf.size = 0
 ·show Sem.run P (if _ then _ else _) w = _
  rw [if_pos h0]; rfl
 ·show Sem.run P (if _ then _ else _) w = _
  rw [if_neg h0]
  refine qdQ (s := frozen a) (x := w.frozen? a) rfl (qdQ (s := frozen b) (x := w.frozen? b) rfl ?_)
  rw [hfb', Bool.and_false, if_neg (by simp), if_pos hne']
  refine qdQ (view a _ hsa) (qdQ (view b _ hsb) (qdQ hmb ?_))
  rw [if_neg (by simp), heq]
  rfl
theorem qgI {P : Program} {f : FuncId} {fn : Func} {e : Array Value → Sem Value} {args : Array Value} {w : World} {v : Value} (hf : P.funcs[f]? = some fn) (hname : (fn.name == "runtime.NumGoroutine") = false) (hb : fn.body.isNone = true)
    (hn : Extern.findNext fn = none) (he : Extern.find fn = some e) (h : (e args).run P w = .ok v w) : (callFunc f args).run P w = .ok (.value v) w := by
 have hn2 : ¬ fn.name = "runtime.NumGoroutine" := by simpa using hname
 have hb2 : fn.body = none := by simpa using hb
 simp [callFunc, program, mark, bind, Sem.bind, Sem.run, Sem.run_bind', hf, hn2, hb2, hn, he, h, Result.andThen, pure]
theorem Own.some {α : Type} {E : El α} {w : World} {B c : Nat} {A : Option Addr} {xs : List α} (h : Own E w B A c xs) (hx : xs ≠ []) : ∃ g o T cs, A = some ⟨g, o, none⟩ ∧ B ≤ g ∧ Blk w g T cs := by
 cases h with
 | nil => exact absurd rfl hx
 | blk hB h hc hz hx => exact ⟨_, _, _, _, rfl, hB, h⟩
end Go.V
