import Derived.Test.YtkpfabigipedcaaGreatBaVDeep
import Derived.Test.YtkpfabigipedcaaGreatBaVCut
set_option linter.unusedVariables false
set_option linter.unusedSimpArgs false
namespace Go.V
structure Plc (w : World) (g o T : Nat) (R : Array Value) (cs : Array Value) : Prop where
 b : Blk w g T (splice R o cs.toList)
 sz : o + cs.size ≤ R.size
section
variable {w w' : World} {g o T : Nat} {R cs cs' : Array Value}
theorem Plc.lt (h : Plc w g o T R cs) : g < w.heap.size := h.b.lt
theorem Plc.at (h : Plc w g o T R cs) (j : Nat) {v : Value} {a : Addr} (ha : a = ⟨g, o + j, none⟩) (hj : cs[j]? = some v) : w.cell? a = some v := by
 subst ha
 refine h.b.cell ?_
 have hl : j < cs.size := (Array.getElem?_eq_some_iff.1 hj).1
 have := h.sz
 rw [qdr, if_pos (by simp; omega), show o + j - o = j by omega]
 simpa using hj
theorem Plc.ext (h : Plc w g o T R cs) (e : Ext w w') : Plc w' g o T R cs := ⟨h.b.ext e, h.sz⟩
theorem Plc.chg {k : Nat} (h : Plc w g o T R cs) (e : ChgB k w w') (hne : g ≠ k) : Plc w' g o T R cs := ⟨h.b.chg e hne, h.sz⟩
theorem Plc.chgS {S : Nat → Prop} (h : Plc w g o T R cs) (e : Chg S w w') (hne : ¬ S g) : Plc w' g o T R cs := ⟨h.b.chgS e hne, h.sz⟩
theorem Plc.app {A A' : Option Addr} (h : Plc w g o T R cs) (e : qgC A A' w w') (hne : Apart A g) : Plc w' g o T R cs := ⟨h.b.app e hne, h.sz⟩
theorem Plc.ne {g' : Nat} (h : Plc w g o T R cs) (h' : w.heap.size ≤ g') : g ≠ g' := h.b.ne h'
theorem qjB (R cs : Array Value) (o j : Nat) (vs : List Value) (hj : j + vs.length ≤ cs.size) (hs : o + cs.size ≤ R.size) : splice (splice R o cs.toList) (o + j) vs = splice R o (splice cs j vs).toList := by
 apply Array.ext_getElem?
 intro i
 simp only [qdr, qdT, Array.length_toList]
 by_cases h1 : o + j ≤ i ∧ i < o + j + vs.length ∧ i < R.size
 ·rw [if_pos h1, if_pos (by omega), show (splice cs j vs).toList[i - o]? = (splice cs j vs)[i - o]? from by simp, qdr, if_pos (by omega)]
  congr 1; omega
 ·rw [if_neg h1]
  by_cases h2 : o ≤ i ∧ i < o + cs.size ∧ i < R.size
  ·rw [if_pos h2, if_pos h2, show (splice cs j vs).toList[i - o]? = (splice cs j vs)[i - o]? from by simp, qdr, if_neg (by omega)]
   simp
  ·rw [if_neg h2, if_neg h2]
theorem qmH {a : Addr} {j : Nat} {vs : List Value} {k : World → Prop} (hB : Plc w g o T R cs) (ha : a = ⟨g, o + j, none⟩) (hc : splice cs j vs = cs') (hl : j + vs.length ≤ cs.size) (ho : vs.all oneCell = true)
    (h : ∀ w1, Plc w1 g o T R cs' → ChgB g w w1 → k w1) : qae a vs 0 w k := by
 have hs := hB.sz
 refine qd9 hB.b ha rfl (by rw [qdT]; omega) ho fun w1 hb hch => h w1 ⟨?_, ?_⟩ hch
 ·rw [← hc, ← qjB R cs o j vs hl hs]; exact hb
 ·rw [← hc, qdT]; exact hs
end
theorem Mov.trans {w w1 : World} {A A' A'' : Option Addr} (h : Mov w A A') (h' : Mov w1 A' A'') (hs : w.heap.size ≤ w1.heap.size) : Mov w A A'' := by
 intro a'' ha''
 rcases h' a'' ha'' with ⟨a', ha', hb⟩ | hge
 ·rcases h a' ha' with ⟨a, ha, hb'⟩ | hge
  ·exact .inl ⟨a, ha, hb'.trans hb⟩
  ·exact .inr (by omega)
 ·exact .inr (by omega)
theorem qfO {w : World} {S : Prop} {A A' : Option Addr} (m : Mov w A A') {g : Nat} (h : InB A' g) (k : InB A g → S) : w.heap.size ≤ g ∨ S := by
 obtain ⟨a', ha', rfl⟩ := h
 rcases m a' ha' with ⟨a, ha, hb⟩ | hge
 ·exact .inr (k ⟨a, ha, hb⟩)
 ·exact .inl hge
theorem Row.re {α : Type} [Inhabited α] {E : El α} {w : World} {A : Option Addr} {a : Addr} {xs : List α} (h : Row E w A xs) (ha : A = some a) {i : Int} (h0 : 0 ≤ i) (h1 : i < ((xs.length : Nat) : Int)) :
    ∀ j v, (E.enc (rd xs i))[j]? = some v → w.cell? ((a.add (i.toNat * E.sz)).add j) = some v := by
 obtain ⟨a', ha', hc⟩ := h.at h0 h1
 rw [ha] at ha'; cases ha'
 exact hc
theorem qfF {P : Program} {α : Type} [Inhabited α] {E : El α} {t1 t2 e2 ty : TypeId} (T : SlT P E t1) (h2 : P.underlying t2 = some (.slice e2)) {B : Nat} {w : World} {c n2 n : Nat} {A : Option Addr} {xs : List α} {A2 : Option Addr} {c2 : Nat} {ys : List α}
    (hO : Own E w B A c xs) (hR : Row E w A2 ys) (hB : B ≤ w.heap.size) (hn : n = xs.length) (hn2 : n2 = ys.length) (hl : xs.length + ys.length ≤ 17179869184) {k : Option Addr → Nat → Nat → World → Prop}
    (h : ∀ A' c' w', Own E w' B A' c' (xs ++ ys) → qgC A A' w w' → k A' (xs ++ ys).length c' w') :
    Run P (Builtin.append_ #[t1, t2] ty #[.slice A n c, .slice A2 n2 c2]) w fun v w' => ∃ (A' : Option Addr) (n' c' : Nat), v = .slice A' n' c' ∧ k A' n' c' w' := by
 subst hn; subst hn2
 obtain ⟨inf, z, hi, hsz, hz, hzz, hby, hby0⟩ := T.info
 obtain ⟨A', c', w', hr, hcase⟩ := qj6 h2 T.under hi hsz hz (by rw [hzz]; simp [E.len]) hby hby0 hO hR hl (c2 := c2) (ty := ty)
 refine ⟨_, w', hr, A', _, c', rfl, ?_⟩
 rcases hcase with ⟨rfl, ho, hnil, hch⟩ | ⟨ho, he⟩
 ·refine h _ _ _ ho ?_
  cases A' with
  | none =>
   have e := hnil rfl
   exact ⟨e.os, e.tape, e.output, e.size, fun k hk _ => e.block k hk, fun a ha => by cases ha⟩
  | some a =>
   have e := hch a rfl
   exact ⟨e.os, e.tape, e.output, e.size, fun k hk hap => e.block k hk (fun h => hap a rfl h.symm), fun a' ha' => .inl ⟨a', ha', rfl⟩⟩
 ·refine h _ _ _ (ho.mono hB) ⟨he.os, he.tape, he.output, he.size, fun k hk _ => he.block k hk, fun a' ha' => .inr (ho.base a' ha')⟩
theorem Own.qf3 {α : Type} [Inhabited α] {E : El α} {w : World} {B c lo hi : Nat} {A : Option Addr} {a : Addr} {xs : List α} (h : Own E w B A c xs) (ha : cutA c lo A E.sz = some a) {i : Int} (h0 : 0 ≤ i) (h1 : i < (((xs.take hi).drop lo).length : Nat))
    (f : Nat) (vs : List Value) (y : α) (hy : E.enc y = (E.enc (rd ((xs.take hi).drop lo) i)).take f ++ vs ++ (E.enc (rd ((xs.take hi).drop lo) i)).drop (f + vs.length)) (hf : f + vs.length ≤ E.sz) (ho : vs.all oneCell = true) {k : World → Prop}
    (hk : ∀ w1, Own E w1 B A c (xs.set (lo + i.toNat) y) → ChgB a.block w w1 → B ≤ a.block → k w1) : qae ((a.add (i.toNat * E.sz)).add f) vs 0 w k := by
 have hlen : i.toNat < min hi xs.length - lo := by simp at h1; omega
 have hle := h.le
 have hrd : rd ((xs.take hi).drop lo) i = rd xs ((lo + i.toNat : Nat) : Int) := by
  simp only [rd, List.getD_eq_getElem?_getD, List.getElem?_drop, Int.toNat_natCast]
  rw [List.getElem?_take, if_pos (by omega)]
 unfold cutA at ha
 rw [if_neg (by omega)] at ha
 cases hA : A with
 | none => rw [hA] at ha; cases ha
 | some a0 =>
  have hs : a0.spot = none := by rw [hA] at h; cases h; rfl
  rw [hA] at ha
  simp only [Option.map_some, Option.some.injEq] at ha
  rw [hrd] at hy
  have := h.storeAt hA (i := ((lo + i.toNat : Nat) : Int)) (by omega) (by omega) f vs y hy hf ho (k := k) fun w1 ho' hc hb => hk w1 (by rw [Int.toNat_natCast] at ho'; exact ho') (by rw [← ha, qeF]; exact hc) (by rw [← ha, qeF]; exact hb)
  rw [Int.toNat_natCast, Nat.add_mul] at this
  rw [← ha, add_add a0 hs]
  exact this
end Go.V
