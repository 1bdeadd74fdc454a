import Derived.Test.YtkpfabigipedcaaGreatLoVWords
import Derived.Laws.StructEq
set_option linter.unusedVariables false
set_option linter.unusedSimpArgs false
namespace Go.V
theorem qkJ {P : Program} {t : TypeId} {cs : Array Value} {o : Nat} {v : Value} (ht : P.underlying t = some (.int .i64)) (hv : cs[o]? = some v) (w : World) : (part t cs o).run P w = .ok v w := by
 unfold part
 simp [isAgg, underlying, program, ht, hv, bind, Sem.bind, pure, Sem.run]
structure qp0 (P : Program) (f : Field) (o : Nat) : Prop where
 name : f.name ≠ "_"
 off : f.offset = o
 int : P.underlying f.type = some (.int .i64)
theorem qj9 {P : Program} (d : Nat) (xs ys : Array Value) (w : World) : ∀ (fs : List Field) (l : List (Int × Int)) (o : Nat), (∀ i f, fs[i]? = some f → qp0 P f (o + i)) → fs.length = l.length →
    (∀ i p, l[i]? = some p → xs[o + i]? = some (.int .i64 p.1) ∧ ys[o + i]? = some (.int .i64 p.2)) → (Op.eqFields (d + 1) xs ys fs).run P w = .ok (l.all fun p => p.1 == p.2) w
 | [], [], _, _, _, _ => rfl
 | f :: fs, p :: l, o, hf, hl, hx => by
  have h0 := hf 0 f rfl
  have hp := hx 0 p rfl
  rw [Nat.add_zero] at h0 hp
  simp only [Op.eqFields]
  rw [if_pos h0.name]
  simp only [Sem.run_bind, h0.off, qkJ h0.int hp.1, qkJ h0.int hp.2, Result.andThen_ok, run_equalIn_int (h := h0.int)]
  have ih := qj9 (P := P) d xs ys w fs l (o + 1) (fun i g hg => by rw [show o + 1 + i = o + (i + 1) by omega]; exact hf (i + 1) g hg) (by simpa using hl)
   (fun i q hq => by rw [show o + 1 + i = o + (i + 1) by omega]; exact hx (i + 1) q hq)
  by_cases e : p.1 = p.2
  ·simp [e, ih]
  ·have : (p.1 == p.2) = false := by simpa using e
   simp [this]
def qhd (P : Program) (t : TypeId) (n : Nat) : Bool :=
 let fs := (P.fieldsOf t).toList
 fs.length == n && (List.range n).all fun i => match fs[i]? with | some f => f.name != "_" && f.offset == i && (match P.underlying f.type with | some (.int .i64) => true | _ => false) | none => false
theorem structEq {P : Program} {t : TypeId} {xs ys : List Int} (ht : P.underlying t = some (.struct (P.fieldsOf t))) (hp : P.stoodInHeld t = false) (hm : P.eqGuardType P.depth t = false) (hf : qhd P t xs.length = true) (hl : xs.length = ys.length) (w : World) :
    (Op.equalIn 10000 t (.agg (xs.map (Value.int .i64)).toArray) (.agg (ys.map (Value.int .i64)).toArray)).run P w = .ok ((xs.zip ys).all fun p => p.1 == p.2) w := by
 rw [run_equalIn_agg w 9999 t _ _ ht hp]
 simp only [qhd, Bool.and_eq_true, beq_iff_eq, List.all_eq_true, List.mem_range] at hf
 obtain ⟨h1, h2⟩ := hf
 refine qj9 9998 _ _ w _ (xs.zip ys) 0 (fun i f hi => ?_) (by simp [h1, hl]) fun i p hi => ?_
 ·have hil : i < xs.length := by have := (List.getElem?_eq_some_iff.1 hi).1; omega
  have := h2 i hil
  rw [hi] at this
  simp only [Bool.and_eq_true, bne_iff_ne, beq_iff_eq] at this
  obtain ⟨⟨a, b⟩, c⟩ := this
  refine ⟨a, by omega, ?_⟩
  split at c
  ·assumption
  ·cases c
 ·obtain ⟨hz1, hz2⟩ := List.getElem?_zip_eq_some.1 hi
  simp [hz1, hz2]
theorem qpa {P : Program} {t : TypeId} {xs ys : List Int} (ht : P.underlying t = some (.struct (P.fieldsOf t))) (hp : P.stoodInHeld t = false) (hm : P.eqGuardType P.depth t = false) (hf : qhd P t xs.length = true) (hl : xs.length = ys.length) (a b : Operand) (w : World) :
    (eqGuard .eql t a b (.agg (xs.map (Value.int .i64)).toArray) (.agg (ys.map (Value.int .i64)).toArray) >>= fun _ => binOp .eql t (.agg (xs.map (Value.int .i64)).toArray) (.agg (ys.map (Value.int .i64)).toArray)).run P w = .ok (.bool ((xs.zip ys).all fun p => p.1 == p.2)) w := by
 simp only [Sem.run_bind, run_eqGuard_agg w .eql t a b _ _ hm, Result.andThen_ok, run_eql_struct, structEq ht hp hm hf hl]
theorem qnz {P : Program} {t : TypeId} {xs ys : List Int} (ht : P.underlying t = some (.struct (P.fieldsOf t))) (hp : P.stoodInHeld t = false) (hm : P.eqGuardType P.depth t = false) (hf : qhd P t xs.length = true) (hl : xs.length = ys.length) (a b : Operand) (w : World) :
    (eqGuard .neq t a b (.agg (xs.map (Value.int .i64)).toArray) (.agg (ys.map (Value.int .i64)).toArray) >>= fun _ => binOp .neq t (.agg (xs.map (Value.int .i64)).toArray) (.agg (ys.map (Value.int .i64)).toArray)).run P w = .ok (.bool (!((xs.zip ys).all fun p => p.1 == p.2))) w := by
 simp only [Sem.run_bind, run_eqGuard_agg w .neq t a b _ _ hm, Result.andThen_ok, run_neq_struct, structEq ht hp hm hf hl]
end Go.V
