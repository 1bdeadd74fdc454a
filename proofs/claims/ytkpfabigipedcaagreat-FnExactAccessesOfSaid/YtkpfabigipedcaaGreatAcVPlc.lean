import Derived.Test.YtkpfabigipedcaaGreatAcVDeep
import Derived.Test.YtkpfabigipedcaaGreatAcVCut
set_option linter.unusedVariables false
set_option linter.unusedSimpArgs false
namespace Go.V
structure Plc (w : World) (g o T : Nat) (R : Array Value) (cs : Array Value) : Prop where
 b : Blk w g T (splice R o cs.toList)
 sz : o + cs.size ≤ R.size
section
variable {w w' : World} {g o T : Nat} {R cs cs' : Array Value}
theorem Plc.lt (h : Plc w g o T R cs) : g < w.heap.size := h.b.lt
theorem Plc.at (h : Plc w g o T R cs) (j : Nat) {v : Value} {a : Addr} (ha : a = ⟨g, o + j, none⟩) (hj : cs[j]? = some v) : w.cell? a = some v := by
 subst ha
 refine h.b.cell ?_
 have hl : j < cs.size := (Array.getElem?_eq_some_iff.1 hj).1
 have := h.sz
 rw [splice_get, if_pos (by simp; omega), show o + j - o = j by omega]
 simpa using hj
theorem Plc.ext (h : Plc w g o T R cs) (e : Ext w w') : Plc w' g o T R cs := ⟨h.b.ext e, h.sz⟩
theorem Plc.chg {k : Nat} (h : Plc w g o T R cs) (e : ChgB k w w') (hne : g ≠ k) : Plc w' g o T R cs := ⟨h.b.chg e hne, h.sz⟩
theorem Plc.chgS {S : Nat → Prop} (h : Plc w g o T R cs) (e : Chg S w w') (hne : ¬ S g) : Plc w' g o T R cs := ⟨h.b.chgS e hne, h.sz⟩
theorem Plc.app {A A' : Option Addr} (h : Plc w g o T R cs) (e : AppEv A A' w w') (hne : Apart A g) : Plc w' g o T R cs := ⟨h.b.app e hne, h.sz⟩
theorem Plc.ne {g' : Nat} (h : Plc w g o T R cs) (h' : w.heap.size ≤ g') : g ≠ g' := h.b.ne h'
end
theorem Mov.trans {w w1 : World} {A A' A'' : Option Addr} (h : Mov w A A') (h' : Mov w1 A' A'') (hs : w.heap.size ≤ w1.heap.size) : Mov w A A'' := by
 intro a'' ha''
 rcases h' a'' ha'' with ⟨a', ha', hb⟩ | hge
 ·rcases h a' ha' with ⟨a, ha, hb'⟩ | hge
  ·exact .inl ⟨a, ha, hb'.trans hb⟩
  ·exact .inr (by omega)
 ·exact .inr (by omega)
end Go.V
