import Derived.OrdersHeld
import Derived.Tactics
import Derived.Laws.World
import Derived.KernelRfl
import Derived.Laws.Sem
import Derived.Laws.AppendOwn
import Derived.Deep.LoopGhost
set_option linter.unusedSimpArgs false
set_option linter.unusedVariables false
namespace Go.V

theorem qcR {d t : Nat} (h : d ≠ t) : Nat.beq d t = false := by
 cases hb : Nat.beq d t with
 | false => rfl
 | true => exact absurd (Nat.eq_of_beq_eq_true hb) h
theorem qgC {d n : Nat} (h : d < n) : Nat.blt d n = true := by
 unfold Nat.blt; exact Nat.ble_eq_true_of_le h
theorem qgE {d n : Nat} (h : ¬ d < n) : Nat.blt d n = false := by
 cases hb : Nat.blt d n with
 | false => rfl
 | true => exact absurd (Nat.le_of_ble_eq_true hb) h

abbrev Env := List (Nat × Value)
def Env.get : Env → Nat → Option Value
 | [], _ => none
 | p :: r, t => bif Nat.beq p.1 t then some p.2 else Env.get r t

def ev (E : Env) : Operand → Option Value
 | .tmp t => Env.get E t
 | .const v => some v
 | .global g => some (.pointer (some ⟨g, 0, none⟩))
 | .func f => some (.func (.func f) #[] #[])

structure Sat (n : Nat) (a : Act) (E : Env) : Prop where
 defers : a.defers = []
 size : a.tmps.size = n
 get : ∀ t v, Env.get E t = some v → a.tmps[t]? = some v

theorem Sat.ev {n : Nat} {a : Act} {E : Env} (h : Sat n a E) {x : Operand} {v : Value} (hx : ev E x = some v) : a.eval x = v := by
 cases x with
 | tmp t => have := h.get t v hx; simp [Act.eval, this]
 | const c => simpa [V.ev, Act.eval] using hx
 | global g => simpa [V.ev, Act.eval] using hx
 | func f => simpa [V.ev, Act.eval] using hx

theorem Sat.put {n : Nat} {a : Act} {E : Env} (h : Sat n a E) {d : Nat} (hd : d < n) (v : Value) : Sat n (a.put (some d) v) ((d, v) :: E) := by
 refine ⟨by simp [Act.put, h.defers], by simp [Act.put, h.size], fun t u hu => ?_⟩
 simp only [Env.get] at hu
 by_cases e : d = t
 ·subst e
  simp at hu
  subst hu
  simp [Act.put, h.size, hd]
 ·have : Nat.beq d t = false := qcR e
  rw [this] at hu
  simp only [cond_false] at hu
  simp [Act.put, Array.getElem?_setIfInBounds_ne e, h.get t u hu]

theorem Sat.cons {n : Nat} {a : Act} {E : Env} (h : Sat n a E) {d : Nat} {v : Value} (hd : a.tmps[d]? = some v) : Sat n a ((d, v) :: E) := by
 refine ⟨h.defers, h.size, fun t u hu => ?_⟩
 simp only [Env.get] at hu
 by_cases e : d = t
 ·subst e; simp at hu; subst hu; exact hd
 ·have : Nat.beq d t = false := qcR e
  rw [this] at hu
  exact h.get t u hu

def qa5 (b : Bool) (X Y : Prop) : Prop := Bool.rec Y X b
theorem qcD {b : Bool} {X Y : Prop} : qa5 b X Y ↔ ((b = true → X) ∧ (b = false → Y)) := by cases b <;> simp [qa5]
theorem qa8 {b : Bool} {X Y : Prop} (h : b = true → X) (k : b = false → Y) : qa5 b X Y := qcD.2 ⟨h, k⟩

def put (n : Nat) (dst : Option Tmp) (v : Value) (K : Env → Prop) (E : Env) : Prop :=
 match dst with
 | none => K E
 | some d => bif Nat.blt d n then K ((d, v) :: E) else False

theorem qe8 {n : Nat} {a : Act} {E : Env} (h : Sat n a E) {dst : Option Tmp} {v : Value} {K : Env → Prop} (hp : put n dst v K E) :
    ∃ E', Sat n (a.put dst v) E' ∧ K E' ∧ (∀ t, some t ≠ dst → (a.put dst v).tmps[t]? = a.tmps[t]?) := by
 cases dst with
 | none => exact ⟨E, h, hp, fun _ _ => rfl⟩
 | some d =>
  simp only [put] at hp
  by_cases hd : d < n
  ·have : Nat.blt d n = true := qgC hd
   rw [this] at hp
   refine ⟨_, h.put hd v, hp, fun t ht => ?_⟩
   simp [Act.put, Array.getElem?_setIfInBounds_ne (fun e => ht (by rw [e]) : d ≠ t)]
  ·have : Nat.blt d n = false := qgE hd
   rw [this] at hp
   exact hp.elim

def qbU (k : IntKind) (x y : Int) : Int := k.wrap (((BitVec.ofInt k.bits x &&& BitVec.ofInt k.bits y).toNat : Nat) : Int)
def qfP (k : IntKind) (x y : Int) : Int := k.wrap (((BitVec.ofInt k.bits x ||| BitVec.ofInt k.bits y).toNat : Nat) : Int)
def qcZ (k : IntKind) (x y : Int) : Int := k.wrap (((BitVec.ofInt k.bits x ^^^ BitVec.ofInt k.bits y).toNat : Nat) : Int)
def qcg (P : Program) {α : Type} : Sem α → Option α
 | .pure a => some a
 | .program k => qcg P (k P)
 | _ => none
theorem qdM (P : Program) {α : Type} : ∀ (s : Sem α) (a : α), qcg P s = some a → ∀ w, s.run P w = .ok a w
 | .pure b, a, h, w => by simp [qcg] at h; simp [Sem.run, h]
 | .program k, a, h, w => by simp only [qcg] at h; simp [Sem.run, qdM P (k P) a h w]
 | .load .., _, h, _ => by simp [qcg] at h
 | .store .., _, h, _ => by simp [qcg] at h
 | .new .., _, h, _ => by simp [qcg] at h
 | .shape .., _, h, _ => by simp [qcg] at h
 | .freeze .., _, h, _ => by simp [qcg] at h
 | .frozen .., _, h, _ => by simp [qcg] at h
 | .getObj .., _, h, _ => by simp [qcg] at h
 | .setObj .., _, h, _ => by simp [qcg] at h
 | .choose .., _, h, _ => by simp [qcg] at h
 | .sys .., _, h, _ => by simp [qcg] at h
 | .mark .., _, h, _ => by simp [qcg] at h
 | .halt .., _, h, _ => by simp [qcg] at h

def leaves (P : Program) : Nat → TypeId → Option (List TypeId)
 | 0, _ => none
 | f + 1, t => match P.underlying t with
  | some (.struct fs) => go (leaves P f) fs.toList
  | some (.array _ _) => none
  | some _ => some [t]
  | none => none
where go (r : TypeId → Option (List TypeId)) : List Field → Option (List TypeId)
 | [] => some []
 | f :: fs => match r f.type, go r fs with
  | some a, some b => some (a ++ b)
  | _, _ => none

def qg7 (P : Program) (t : TypeId) (k : Value → Prop) : Prop :=
 match P.underlying t with
 | some (.int i) => ∃ n : Int, k (.int i n)
 | some .bool => ∃ b : Bool, k (.bool b)
 | some .string => ∃ s : ByteArray, k (.string s)
 | some (.slice _) => ∃ (A : Option Addr) (n c : Nat), k (.slice A n c)
 | some (.pointer _) => ∃ a : Addr, k (.pointer (some a))
 | some (.map _ _) => ∃ r : Nat, k (.map (some r))
 | some (.func _ _ _) => ∃ v : Value, k v
 | _ => False
theorem qdh {P : Program} {t : TypeId} {k : Value → Prop} (h : qg7 P t k) : ∃ v, k v := by
 unfold qg7 at h
 split at h
 ·obtain ⟨n, h⟩ := h; exact ⟨_, h⟩
 ·obtain ⟨n, h⟩ := h; exact ⟨_, h⟩
 ·obtain ⟨n, h⟩ := h; exact ⟨_, h⟩
 ·obtain ⟨_, _, _, h⟩ := h; exact ⟨_, h⟩
 ·obtain ⟨n, h⟩ := h; exact ⟨_, h⟩
 ·obtain ⟨n, h⟩ := h; exact ⟨_, h⟩
 ·obtain ⟨n, h⟩ := h; exact ⟨_, h⟩
 ·exact h.elim

def qdB (P : Program) (rd : Nat → Value → Prop) : List TypeId → Nat → List Value → (List Value → Prop) → Prop
 | [], _, acc, k => k acc.reverse
 | t :: ts, i, acc, k => qg7 P t fun v => rd i v ∧ qdB P rd ts (i + 1) (v :: acc) k

theorem qcG {P : Program} {rd : Nat → Value → Prop} : ∀ (ts : List TypeId) (i : Nat) (acc : List Value) (k : List Value → Prop), qdB P rd ts i acc k →
    ∃ vs : List Value, vs.length = ts.length ∧ (∀ j v, vs[j]? = some v → rd (i + j) v) ∧ k (acc.reverse ++ vs)
 | [], i, acc, k, h => ⟨[], rfl, by simp, by simpa [qdB] using h⟩
 | t :: ts, i, acc, k, h => by
  simp only [qdB] at h
  obtain ⟨v, hv, h⟩ := qdh h
  obtain ⟨vs, hl, hr, hk⟩ := qcG ts (i + 1) (v :: acc) k h
  refine ⟨v :: vs, by simp [hl], fun j u hj => ?_, by simpa using hk⟩
  cases j with
  | zero => simp at hj; subst hj; exact hv
  | succ j => simp at hj; have := hr j u hj; rwa [show i + 1 + j = i + (j + 1) by omega] at this

def ldT (P : Program) (t : TypeId) (rd : Nat → Value → Prop) (k : Value → Prop) : Prop :=
 match P.underlying t with
 | some (.struct _) => (match leaves P 8 t, (P.info? t).map (·.size) with
  | some ts, some n => bif Nat.beq ts.length n then qdB P rd ts 0 [] fun vs => k (.agg vs.toArray) else False
  | _, _ => False)
 | some (.array _ _) => False
 | some _ => qg7 P t fun v => rd 0 v ∧ k v
 | none => False

theorem qca {P : Program} {w : World} {a : Addr} : ∀ (n i : Nat) (acc : Array Value) (vs : List Value), vs.length = n →
    (∀ j v, vs[j]? = some v → w.cell? (a.add (i + j)) = some v) → (loadCellsFrom a i n acc).run P w = .ok (acc ++ vs.toArray) w
 | 0, i, acc, vs, hl, _ => by
  have : vs = [] := by simpa using hl
  subst this
  simp [loadCellsFrom, pure]
 | n + 1, i, acc, v :: vs, hl, h => by
  have h0 := h 0 v rfl
  simp only [Nat.add_zero] at h0
  simp only [loadCellsFrom, load, bind, Sem.bind, Sem.run, h0]
  rw [qca n (i + 1) (acc.push v) vs (by simpa using hl) (fun j u hj => by
   have := h (j + 1) u (by simpa using hj); rwa [show i + (j + 1) = i + 1 + j by omega] at this)]
  simp
 | n + 1, i, acc, [], hl, _ => by simp at hl

theorem qd3 {P : Program} {t : TypeId} {a : Addr} {rd : Nat → Value → Prop} {k : Value → Prop} (h : ldT P t rd k) :
    ∃ v, k v ∧ ∀ w, (∀ i v, rd i v → w.cell? (a.add i) = some v) → (loadVar t a).run P w = .ok v w := by
 unfold ldT at h
 split at h
 ·rename_i fs hu
  split at h
  ·rename_i ts n hl hn
   cases hb : Nat.beq ts.length n with
   | false => simp [hb] at h
   | true =>
    simp only [hb, cond_true] at h
    obtain ⟨vs, hlen, hr, hk⟩ := qcG ts 0 [] _ h
    refine ⟨_, by simpa using hk, fun w hw => ?_⟩
    have hn' : vs.length = n := by rw [hlen]; exact Nat.eq_of_beq_eq_true hb
    have hrun := qca (P := P) (w := w) (a := a) n 0 #[] vs hn' (fun j v hj => hw _ v (hr j v hj))
    obtain ⟨inf, hinf, hsz⟩ : ∃ inf, P.info? t = some inf ∧ inf.size = n := by
     cases hi : P.info? t with
     | none => simp [hi] at hn
     | some inf => simp [hi] at hn; exact ⟨inf, rfl, hn⟩
    have e1 : (loadVar t a).run P w = ((loadCellsFrom a 0 n #[]).bind fun cs => .pure (Value.agg cs)).run P w := by
     simp [loadVar, isAgg, underlying, sizeOf, typeInfo, program, loadCells, bind, Sem.bind, Sem.run, hu, hinf, hsz, pure]
    rw [e1, Sem.run_bind', hrun]
    simp [Sem.run]
  ·exact h.elim
 ·exact h.elim
 ·rename_i d hs ha hu
  obtain ⟨v, hr, hk⟩ := qdh h
  refine ⟨v, hk, fun w hw => ?_⟩
  have h0 := hw 0 v hr
  have e0 : a.add 0 = a := by simp [Addr.add]
  rw [e0] at h0
  have e2 : (loadVar t a).run P w = (load a).run P w := by
   cases d <;> first
    | (exact (ha _ _ rfl).elim)
    | (exact (hs _ rfl).elim)
    | simp [loadVar, isAgg, underlying, program, bind, Sem.bind, Sem.run, hu, pure]
  rw [e2]
  simp [load, Sem.run, h0]
 ·exact h.elim

def szOf (P : Program) (t : TypeId) : Nat := ((P.info? t).map (·.size)).getD 0
def qdD (P : Program) (t : TypeId) : Bool := (P.info? t).isSome

def ixA (A : Option Addr) (n : Nat) (i : Int) (sz : Nat) (k : Value → Prop) : Prop :=
 0 ≤ i ∧ i < n ∧ ∃ a, A = some a ∧ k (.pointer (some (a.add (i.toNat * sz))))

def qfQ (E : Env) : List Operand → Bool
 | [] => true
 | x :: xs => (ev E x).isSome && qfQ E xs
theorem qe2 {n : Nat} {a : Act} {E : Env} (h : Sat n a E) : ∀ (l : List Operand), qfQ E l = true → ∀ x ∈ l, a.eval x = ((ev E x).getD undef)
 | [], _, x, hx => by simp at hx
 | y :: l, hl, x, hx => by
  simp only [qfQ, Bool.and_eq_true] at hl
  rcases List.mem_cons.1 hx with rfl | hx
  ·cases he : ev E x with
   | none => simp [he] at hl
   | some v => simpa using h.ev he
  ·exact qe2 h l hl.2 x hx

def qeb : Op → Bool
 | .select _ _ => false
 | _ => true

def qcW (P : Program) (o : Oper) (E : Env) (k : Value → Prop) : Prop :=
 bif qeb o.op && qfQ E o.op.operands.toList then
  (match qcg P (execOp (fun x => (ev E x).getD undef) o) with
   | some (.value v) => k v
   | _ => False)
 else False

theorem qe4 {P : Program} {n : Nat} {a : Act} {E : Env} (hS : Sat n a E) {o : Oper} {k : Value → Prop} (h : qcW P o E k) :
    ∃ v, k v ∧ ∀ w, (execOp a.eval o).run P w = .ok (.value v) w := by
 unfold qcW at h
 cases hb : (qeb o.op && qfQ E o.op.operands.toList) with
 | false => simp [hb] at h
 | true =>
  simp only [hb, cond_true] at h
  simp only [Bool.and_eq_true] at hb
  split at h
  ·rename_i v hv
   refine ⟨v, h, fun w => ?_⟩
   rw [execOp_congr (ρ := a.eval) (ρ' := fun x => (ev E x).getD undef) o (fun cs b e => by rw [e] at hb; simp [qeb] at hb)
    (fun x hx => qe2 hS _ hb.2 x (by simpa using hx))]
   exact qdM P _ _ hv w
  ·exact h.elim

def bnd (E : Env) (x : Option Operand) (d : Nat) (hi : Nat) (k : Nat → Prop) : Prop :=
 match x with
 | none => k d
 | some x => match ev E x with
  | some (.int _ i) => 0 ≤ i ∧ i ≤ hi ∧ k i.toNat
  | _ => False

def qfs (P : Program) (E : Env) (t : TypeId) (x : Operand) (lo hi mx : Option Operand) (k : Value → Prop) : Prop :=
 match P.underlying t, ev E x with
 | some (.slice e), some (.slice A n c) =>
  bif qdD P e then
  bnd E mx c c fun m =>
  (match hi, mx with
   | none, some _ => False
   | _, _ => bnd E hi n m fun h =>
    (match lo with
     | none => k (.slice A h m)
     | some _ => bnd E lo 0 h fun l => k (.slice (if m = l then A else A.map (·.add (l * szOf P e))) (h - l) (m - l))))
  else False
 | _, _ => False

def qgs (P : Program) (op : BinOp) (t : TypeId) (x y : Value) (k : Bool → Prop) : Prop :=
 ∃ b : Bool, (∀ w, (eqGuard op t (.const undef) (.const undef) x y >>= fun _ => binOp op t x y).run P w = .ok (.bool b) w) ∧ k b

def vcQ (P : Program) (o : Oper) (E : Env) (ld : TypeId → Addr → (Value → Prop) → Prop) (k : Value → Prop) : Prop :=
 match o.op with
 | .load t x => (match ev E x with
  | some (.pointer (some a)) => ld t a k
  | _ => False)
 | .indexAddr t x i => (match P.underlying t, ev E x, ev E i with
  | some (.slice e), some (.slice A n _), some (.int _ i) => bif qdD P e then ixA A n i (szOf P e) k else False
  | _, _, _ => False)
 | .index t x i => (match P.underlying t, ev E x, ev E i with
  | some .string, some (.string s), some (.int _ i) => 0 ≤ i ∧ ∃ b, s[i.toNat]? = some b ∧ k (.int .u8 b.toNat)
  | _, _, _ => False)
 | .slice t x lo hi mx => qfs P E t x lo hi mx k
 | .pick c x y => (match ev E c, ev E x, ev E y with
  | some (.bool b), some v, some u => qa5 b (k v) (k u)
  | _, _, _ => False)
 | .binOp op t x y _ => (match op, ev E x, ev E y with
  | .quo, some (.int i p), some (.int j q) => bif i == j then q ≠ 0 ∧ k (.int i (i.wrap (p.tdiv q))) else False
  | .rem, some (.int i p), some (.int j q) => bif i == j then q ≠ 0 ∧ k (.int i (p.tmod q)) else False
  | .shl, some (.int i p), some (.int _ q) => 0 ≤ q ∧ k (.int i (i.wrap (p * 2 ^ (min q.toNat i.bits))))
  | .shr, some (.int i p), some (.int _ q) => 0 ≤ q ∧ k (.int i (p.fdiv (2 ^ (min q.toNat i.bits))))
  | .eql, some (.slice A _ _), some (.slice none _ _) => (match P.underlying t with
   | some (.slice _) => k (.bool A.isNone)
   | _ => False)
  | .neq, some (.slice A _ _), some (.slice none _ _) => (match P.underlying t with
   | some (.slice _) => k (.bool !A.isNone)
   | _ => False)
  | .eql, some (.agg xs), some (.agg ys) => qgs P .eql t (.agg xs) (.agg ys) fun b => k (.bool b)
  | .neq, some (.agg xs), some (.agg ys) => qgs P .neq t (.agg xs) (.agg ys) fun b => k (.bool b)
  | _, _, _ => qcW P o E k)
 | _ => qcW P o E k

def qaS (o : Oper) : Bool :=
 match o.op with
 | .load .. | .indexAddr .. | .index .. | .slice .. | .pick .. | .binOp .. | .move _ | .assign _ | .unOp .. | .convert .. | .fieldAddr .. | .field .. | .nilCheck _ | .extract .. | .build .. | .makeFunc .. | .makeInterface .. => true
 | .call c => (match c.callee with
  | .builtin b => (match b with | .len | .cap | .min | .max => true | _ => false)
  | _ => false)
 | _ => false

theorem qdH {P : Program} {t : TypeId} (h : qdD P t = true) : ∃ i, P.info? t = some i ∧ i.size = szOf P t := by
 unfold qdD at h
 cases hi : P.info? t with
 | none => simp [hi] at h
 | some i => exact ⟨i, rfl, by simp [szOf, hi]⟩

theorem qcF (a : Addr) : a.add 0 = a := by simp [Addr.add]

theorem qe5 {P : Program} {n : Nat} {a : Act} {E : Env} (hS : Sat n a E) {x : Option Operand} {d hi : Nat} {k : Nat → Prop} (code : BoundsCode)
    (h : bnd E x d hi k) : ∃ m, k m ∧ (x = none → m = d) ∧ ∀ y, x = some y → ∀ w, (Instr.sliceBound (a.eval y) hi code).run P w = .ok m w := by
 cases x with
 | none => exact ⟨d, h, fun _ => rfl, fun y hy => by cases hy⟩
 | some x =>
  simp only [bnd] at h
  split at h
  ·rename_i kk i hv
   refine ⟨i.toNat, h.2.2, fun e => (by cases e), fun y hy w => ?_⟩
   cases hy
   rw [hS.ev hv]
   simp [Instr.sliceBound, asIntOf, pure, bind, Sem.bind, h.1, h.2.1, Sem.run]
  ·exact h.elim

theorem qeP {P : Program} {n : Nat} {a : Act} {E : Env} (hS : Sat n a E) {t : TypeId} {x : Operand} {lo hi mx : Option Operand} {k : Value → Prop}
    (h : qfs P E t x lo hi mx k) : ∃ v, k v ∧ ∀ w, (Instr.sliceAt t (a.eval x) (lo.map a.eval) (hi.map a.eval) (mx.map a.eval)).run P w = .ok v w := by
 unfold qfs at h
 split at h
 ·rename_i e A len cap hu hx
  cases hb : qdD P e with
  | false => simp [hb] at h
  | true =>
   simp only [hb, cond_true] at h
   obtain ⟨inf, hinf, hsz⟩ := qdH hb
   have fin : ∀ (l hh m : Nat), (∀ w, (Instr.sliceBounds true len cap (lo.map a.eval) (hi.map a.eval) (mx.map a.eval)).run P w = .ok (l, hh, m) w) →
       ∀ w, (Instr.sliceAt t (a.eval x) (lo.map a.eval) (hi.map a.eval) (mx.map a.eval)).run P w = .ok (.slice (if m = l then A else A.map (·.add (l * szOf P e))) (hh - l) (m - l)) w := by
    intro l hh m hb w
    rw [hS.ev hx]
    have : (Instr.sliceAt t (.slice A len cap) (lo.map a.eval) (hi.map a.eval) (mx.map a.eval)).run P w = ((Instr.sliceBounds true len cap (lo.map a.eval) (hi.map a.eval) (mx.map a.eval)).bind fun p => .pure (Value.slice (if p.2.2 = p.1 then A else A.map (·.add (p.1 * szOf P e))) (p.2.1 - p.1) (p.2.2 - p.1))).run P w := by
     simp [Instr.sliceAt, Instr.slice, underlying, program, bind, Sem.bind, Sem.run, hu, pure, sizeOf, typeInfo, hinf, hsz, Sem.run_bind']
    rw [this, Sem.run_bind', hb w]
    simp [Sem.run]
   obtain ⟨m, h, hm0, hm⟩ := qe5 (P := P) hS .slice3Acap h
   have step : (match hi, mx with | none, some _ => False | _, _ => True) ∧ bnd E hi len m (fun hh => match lo with
       | none => k (.slice A hh m)
       | some _ => bnd E lo 0 hh fun l => k (.slice (if m = l then A else A.map (·.add (l * szOf P e))) (hh - l) (m - l))) := by
    cases hi <;> cases mx <;> first | exact h.elim | exact ⟨trivial, h⟩
   obtain ⟨hno, h⟩ := step
   obtain ⟨hh, h, hh0, hhr⟩ := qe5 (P := P) hS (match mx with | some _ => .slice3B | none => .sliceAcap) h
   have run : ∀ (l : Nat), (∀ y, lo = some y → ∀ w, (Instr.sliceBound (a.eval y) hh (if mx.isSome then .slice3C else .sliceB)).run P w = .ok l w) → (lo = none → l = 0) →
       ∀ w, (Instr.sliceBounds true len cap (lo.map a.eval) (hi.map a.eval) (mx.map a.eval)).run P w = .ok (l, hh, m) w := by
    intro l hl hl0 w
    cases lo <;> cases hi <;> cases mx <;> simp_all [Instr.sliceBounds, bind, Sem.bind, Sem.run_bind', pure, Sem.run]
   cases lo with
   | none =>
    refine ⟨_, h, fun w => ?_⟩
    have := fin 0 hh m (run 0 (fun y hy => by cases hy) (fun _ => rfl)) w
    rw [this]
    cases A <;> simp [qcF]
   | some y =>
    obtain ⟨l, h, _, hl⟩ := qe5 (P := P) hS (if mx.isSome then .slice3C else .sliceB) h
    exact ⟨_, h, fun w => fin l hh m (run l (fun y' hy' => by cases hy'; exact hl _ rfl) (fun e => by cases e)) w⟩
 ·exact h.elim

theorem qdC {P : Program} {t e : TypeId} (hu : P.underlying t = some (.slice e)) (d : Nat) (A : Option Addr) (n c m l : Nat) (w : World) :
    (Op.equalIn (d + 1) t (.slice A n c) (.slice none m l)).run P w = .ok A.isNone w := by
 unfold Op.equalIn
 cases A <;> simp [underlying, program, hu, bind, Sem.bind, pure, Sem.run]

theorem qd1 {P : Program} {t e : TypeId} (hu : P.underlying t = some (.slice e)) (A : Option Addr) (n c m l : Nat) (w : World) :
    (Op.equal t (.slice A n c) (.slice none m l)).run P w = .ok A.isNone w := qdC hu 9999 A n c m l w

set_option maxHeartbeats 1000000 in
theorem qdn {P : Program} {n : Nat} {a : Act} {E : Env} (hS : Sat n a E) {o : Oper} {S : World → Prop} {ld : TypeId → Addr → (Value → Prop) → Prop} {k : Value → Prop}
    (hld : ∀ t ad k, ld t ad k → ∃ v, k v ∧ ∀ w, S w → (loadVar t ad).run P w = .ok v w)
    (h : vcQ P o E ld k) : ∃ v, k v ∧ ∀ w, S w → (execOp a.eval o).run P w = .ok (.value v) w := by
 have dflt : qcW P o E k → ∃ v, k v ∧ ∀ w, S w → (execOp a.eval o).run P w = .ok (.value v) w := fun h =>
  let ⟨v, hk, hv⟩ := qe4 hS h; ⟨v, hk, fun w _ => hv w⟩
 unfold vcQ at h
 split at h
 ·rename_i t x ho
  split at h
  ·rename_i ad hx
   obtain ⟨v, hk, hv⟩ := hld _ _ _ h
   refine ⟨v, hk, fun w hw => ?_⟩
   simp [execOp, ho, hS.ev hx, Instr.loadAt, Instr.sureAddr, bind, Sem.bind, pure, Sem.run_bind', hv w hw, Sem.run]
  ·exact h.elim
 ·rename_i t x i ho
  split at h
  ·rename_i e A len cap kk i hu hx hi
   cases hb : qdD P e with
   | false => simp [hb] at h
   | true =>
    simp only [hb, cond_true] at h
    obtain ⟨inf, hinf, hsz⟩ := qdH hb
    obtain ⟨h0, h1, ad, rfl, hk⟩ := h
    refine ⟨_, hk, fun w _ => ?_⟩
    simp [execOp, ho, hS.ev hx, hS.ev hi, Instr.indexAt, asIntOf, underlying, program, hu, bind, Sem.bind, pure, Sem.run, h0, h1, sizeOf, typeInfo, hinf, hsz]
  ·exact h.elim
 ·rename_i t x i ho
  split at h
  ·rename_i s kk i hu hx hi
   obtain ⟨h0, b, hbb, hk⟩ := h
   refine ⟨_, hk, fun w _ => ?_⟩
   simp [execOp, ho, hS.ev hx, hS.ev hi, Instr.index, asIntOf, underlying, program, hu, bind, Sem.bind, pure, Sem.run, h0, hbb]
  ·exact h.elim
 ·rename_i t x lo hi mx ho
  obtain ⟨v, hk, hv⟩ := qeP hS h
  refine ⟨v, hk, fun w _ => ?_⟩
  simp [execOp, ho, bind, Sem.run_bind', hv w, pure, Sem.run]
 ·rename_i c x y ho
  split at h
  ·rename_i b v u hc hx hy
   cases b
   ·exact ⟨u, h, fun w _ => by simp [execOp, ho, hS.ev hc, hS.ev hy, asBool, bind, Sem.bind, pure]⟩
   ·exact ⟨v, h, fun w _ => by simp [execOp, ho, hS.ev hc, hS.ev hx, asBool, bind, Sem.bind, pure]⟩
  ·exact h.elim
 ·rename_i op t x y ty ho
  split at h
  ·rename_i i p j q hx hy
   cases hb : i == j with
   | false => simp [hb] at h
   | true =>
    simp only [hb, cond_true] at h
    have : i = j := by simpa using hb
    subst this
    exact ⟨_, h.2, fun w _ => by simp [execOp, ho, hS.ev hx, hS.ev hy, eqGuard, binOp, Op.intDiv, bind, Sem.bind, pure, h.1]⟩
  ·rename_i i p j q hx hy
   cases hb : i == j with
   | false => simp [hb] at h
   | true =>
    simp only [hb, cond_true] at h
    have : i = j := by simpa using hb
    subst this
    exact ⟨_, h.2, fun w _ => by simp [execOp, ho, hS.ev hx, hS.ev hy, eqGuard, binOp, Op.intDiv, bind, Sem.bind, pure, h.1]⟩
  ·rename_i i p j q hx hy
   exact ⟨_, h.2, fun w _ => by simp [execOp, ho, hS.ev hx, hS.ev hy, eqGuard, binOp, Op.shift, bind, Sem.bind, pure, Int.not_lt.2 h.1]⟩
  ·rename_i i p j q hx hy
   exact ⟨_, h.2, fun w _ => by simp [execOp, ho, hS.ev hx, hS.ev hy, eqGuard, binOp, Op.shift, bind, Sem.bind, pure, Int.not_lt.2 h.1]⟩
  ·rename_i A la ca lb cb hx hy
   split at h
   ·rename_i e hu
    refine ⟨_, h, fun w _ => ?_⟩
    have e1 := qd1 hu A la ca lb cb w
    have e2 : (execOp a.eval o).run P w = ((Op.equal t (.slice A la ca) (.slice none lb cb)).bind fun b => .pure (Next.value (.bool b))).run P w := by
     simp only [execOp, ho, hS.ev hx, hS.ev hy, eqGuard, binOp, bind, Sem.bind, pure, Sem.run_bind']
     simp [Sem.bind, Sem.run_bind', Result.andThen, Sem.run, e1, pure]
    rw [e2, Sem.run_bind', e1]; rfl
   ·exact h.elim
  ·rename_i A la ca lb cb hx hy
   split at h
   ·rename_i e hu
    refine ⟨_, h, fun w _ => ?_⟩
    have e1 := qd1 hu A la ca lb cb w
    have e2 : (execOp a.eval o).run P w = ((Op.equal t (.slice A la ca) (.slice none lb cb)).bind fun b => .pure (Next.value (.bool !b))).run P w := by
     simp only [execOp, ho, hS.ev hx, hS.ev hy, eqGuard, binOp, bind, Sem.bind, pure, Sem.run_bind']
     simp [Sem.bind, Sem.run_bind', Result.andThen, Sem.run, e1, pure]
    rw [e2, Sem.run_bind', e1]; rfl
   ·exact h.elim
  ·rename_i xs ys hx hy
   obtain ⟨b, hb, hk⟩ := h
   refine ⟨_, hk, fun w _ => ?_⟩
   have e2 : execOp a.eval o = ((eqGuard .eql t (.const undef) (.const undef) (.agg xs) (.agg ys) >>= fun _ => binOp .eql t (.agg xs) (.agg ys)) >>= fun v => pure (Next.value v)) := by
    simp only [execOp, ho, hS.ev hx, hS.ev hy]; rfl
   rw [e2, Sem.run_bind, hb w]; rfl
  ·rename_i xs ys hx hy
   obtain ⟨b, hb, hk⟩ := h
   refine ⟨_, hk, fun w _ => ?_⟩
   have e2 : execOp a.eval o = ((eqGuard .neq t (.const undef) (.const undef) (.agg xs) (.agg ys) >>= fun _ => binOp .neq t (.agg xs) (.agg ys)) >>= fun v => pure (Next.value v)) := by
    simp only [execOp, ho, hS.ev hx, hS.ev hy]; rfl
   rw [e2, Sem.run_bind, hb w]; rfl
  ·exact dflt h
 ·exact dflt h

def qe3 (P : Program) (f : FuncId) : Bool :=
 match P.funcs[f]? with
 | some fn => fn.name != "runtime.NumGoroutine" && fn.body.isSome
 | none => false

inductive Cll (P : Program) (f : FuncId) (args : Array Value) (w : World) (K : Value → World → Prop) : Prop where
 | mk (plain : qe3 P f = true) (calls : Calls P f args w fun e w' => ∃ v, e = .returned v ∧ K v w')
 | now {v : Value} {w' : World} (run : (callFunc f args).run P w = .ok (.value v) w') (k : K v w')

theorem Cll.mono {P : Program} {f : FuncId} {args : Array Value} {w : World} {K K' : Value → World → Prop} (h : Cll P f args w K) (hk : ∀ v w', K v w' → K' v w') :
    Cll P f args w K' := by
 cases h with
 | mk plain calls => exact .mk plain (calls.mono fun _ w' ⟨v, e, hv⟩ => ⟨v, e, hk v w' hv⟩)
 | now run k => exact .now run (hk _ _ k)

def oneCell : Value → Bool
 | .agg _ => false
 | .tuple _ => false
 | _ => true

def qag (a : Addr) : List Value → Nat → World → (World → Prop) → Prop
 | [], _, w, k => k w
 | v :: vs, i, w, k => bif oneCell v then (∃ u, w.cell? (a.add i) = some u) ∧ w.frozen? (a.add i) = false ∧ qag a vs (i + 1) (w.setCell (a.add i) v) k else False

theorem qcn {P : Program} {a : Addr} : ∀ (vs : List Value) (i : Nat) (w : World) (k : World → Prop), qag a vs i w k →
    ∃ w', (storeCells a vs i).run P w = .ok () w' ∧ k w'
 | [], i, w, k, h => ⟨w, rfl, h⟩
 | v :: vs, i, w, k, h => by
  simp only [qag] at h
  cases ho : oneCell v with
  | false => simp [ho] at h
  | true =>
   simp only [ho, cond_true] at h
   obtain ⟨⟨u, hu⟩, hf, h⟩ := h
   obtain ⟨w', hr, hk⟩ := qcn (P := P) vs (i + 1) _ k h
   refine ⟨w', ?_, hk⟩
   have : (storeCells a (v :: vs) i).run P w = ((store (a.add i) v).bind fun _ => storeCells a vs (i + 1)).run P w := rfl
   rw [this, Sem.run_bind']
   have e : (store (a.add i) v).run P w = .ok () (w.setCell (a.add i) v) := by
    cases v <;> simp [oneCell] at ho <;> simp [store, Sem.run, hu, hf]
   rw [e]
   exact hr

def dec (P : Program) : Nat → TypeId → Value → (Value → Prop) → Prop
 | 0, _, _, _ => False
 | f + 1, t, v, k => match P.underlying t with
  | some (.struct _) => (match leaves P 8 t with
   | some ts => qdB P (fun _ _ => True) ts 0 [] fun vs => v = .agg vs.toArray ∧ k (.agg vs.toArray)
   | none => False)
  | some (.array _ _) => False
  | some (.tuple ts) => go (dec P f) ts.toList v [] k
  | some _ => qg7 P t fun u => v = u ∧ k u
  | none => False
where go (r : TypeId → Value → (Value → Prop) → Prop) : List TypeId → Value → List Value → (Value → Prop) → Prop
 | [], v, acc, k => v = .tuple acc.reverse.toArray ∧ k (.tuple acc.reverse.toArray)
 | t :: ts, v, acc, k => ∃ u, r t u fun u => go r ts v (u :: acc) k

theorem qbG {P : Program} : ∀ (f : Nat) (t : TypeId) (v : Value) (k : Value → Prop), dec P f t v k → k v
 | 0, _, _, _, h => h.elim
 | f + 1, t, v, k, h => by
  simp only [dec] at h
  split at h
  ·split at h
   ·obtain ⟨vs, _, _, hk⟩ := qcG _ _ _ _ h
    simp at hk
    rw [hk.1]; exact hk.2
   ·exact h.elim
  ·exact h.elim
  ·rename_i ts hu
   have key : ∀ (ts : List TypeId) (acc : List Value), dec.go (dec P f) ts v acc k → k v := by
    intro ts
    induction ts with
    | nil => intro acc h; simp only [dec.go] at h; rw [h.1]; exact h.2
    | cons t ts ih =>
     intro acc h
     simp only [dec.go] at h
     obtain ⟨u, h⟩ := h
     exact ih _ (qbG f t u _ h)
   exact key _ _ h
  ·obtain ⟨u, rfl, h⟩ := qdh h; exact h
  ·exact h.elim

def Run (P : Program) (s : Sem Value) (w : World) (k : Value → World → Prop) : Prop := ∃ v w', s.run P w = .ok v w' ∧ k v w'

def evL (E : Env) : List Operand → Option (List Value)
 | [] => some []
 | x :: xs => match ev E x, evL E xs with
  | some v, some vs => some (v :: vs)
  | _, _ => none
theorem qeS {n : Nat} {a : Act} {E : Env} (hS : Sat n a E) : ∀ (l : List Operand) (vs : List Value), evL E l = some vs → l.map a.eval = vs
 | [], vs, h => by simp [evL] at h; simp [h]
 | x :: xs, vs, h => by
  simp only [evL] at h
  split at h
  ·rename_i v us hv hus
   simp at h; subst h
   simp [hS.ev hv, qeS hS xs us hus]
  ·cases h

def evP (E : Env) : List (Nat × Operand) → Option (List (Nat × Value))
 | [] => some []
 | x :: xs => match ev E x.2, evP E xs with
  | some v, some vs => some ((x.1, v) :: vs)
  | _, _ => none
theorem qf1 {n : Nat} {a : Act} {E : Env} (hS : Sat n a E) : ∀ (l : List (Nat × Operand)) (vs : List (Nat × Value)), evP E l = some vs → (l.map fun (i, x) => (i, a.eval x)) = vs
 | [], vs, h => by simp [evP] at h; simp [h]
 | x :: xs, vs, h => by
  simp only [evP] at h
  split at h
  ·rename_i v us hv hus
   simp at h; subst h
   simp [hS.ev hv, qf1 hS xs us hus]
  ·cases h

def newK (w : World) (o : Obj) (k : Nat → World → Prop) : Prop := k w.heap.size (w.alloc o)

def qcj (z : Array Value) (m : Nat) : Array Value := (Array.range m).map (z[· % z.size]!)

def qeX (P : Program) (t : TypeId) (l c : Int) (w : World) (k : Nat → World → Prop) : Prop :=
 match P.underlying t with
 | some (.slice e) => (match P.info? e with
  | some i => (match i.zero with
   | some z => 0 ≤ l ∧ l ≤ c ∧ c ≤ 4611686018427387904 ∧ i.bytes * c ≤ 2 ^ 48 ∧
       newK w (.cells (qcj z.cells (c.toNat * i.size)) e) k
   | none => False)
  | none => False)
 | _ => False

def vcE (P : Program) (o : Oper) (E : Env) (w : World) (K : Value → World → Prop) : Prop :=
 match o.op with
 | .store t x y => (match ev E x, ev E y, (P.info? t).map (·.size) with
  | some (.pointer (some a)), some v, some n => bif Nat.beq v.cells.size n then qag a v.cells.toList 0 w fun w' => K undef w' else False
  | _, _, _ => False)
 | .alloc t => (match (P.info? t).bind (·.zero) with
  | some z => newK w (.cells z.cells t) fun g w' => K (.pointer (some ⟨g, 0, none⟩)) w'
  | none => False)
 | .box t x => (match ev E x with
  | some v => newK w (.cells v.cells t) fun g w' => K (.pointer (some ⟨g, 0, none⟩)) w'
  | none => False)
 | .buildSlice t len parts => (match evP E parts.toList with
  | some ps => Run P (Instr.buildSlice t len ps.toArray) w fun v w' => ∃ (A : Option Addr) (n c : Nat), v = .slice A n c ∧ K (.slice A n c) w'
  | none => False)
 | .makeSlice t l c => (match ev E l, ev E c with
  | some (.int _ l), some (.int _ c) => qeX P t l c w fun g w' => K (.slice (some ⟨g, 0, none⟩) l.toNat c.toNat) w'
  | _, _ => False)
 | .makeMap t none => newK w (.map #[] 0) fun g w' => K (.map (some g)) w'
 | .lookup t x i ok => (match ev E x, ev E i with
  | some m, some key => Run P (Instr.lookup t m key ok) w fun v w' => dec P 4 o.type v fun v => K v w'
  | _, _ => False)
 | .mapUpdate t m x y => (match ev E m, ev E x, ev E y with
  | some m, some key, some v => ∃ w', (Instr.mapUpdate t m key v).run P w = .ok () w' ∧ K undef w'
  | _, _, _ => False)
 | .mapEntry t m x => (match ev E m, ev E x with
  | some m, some key => Run P (Instr.mapEntry t m key) w fun v w' => ∃ (A : Option Addr) (n c : Nat) (i : Int), v = .tuple #[.slice A n c, .int .i64 i] ∧ K (.tuple #[.slice A n c, .int .i64 i]) w'
  | _, _ => False)
 | .entryStore t m x y => (match ev E m, ev E x, ev E y with
  | some m, some i, some v => ∃ w', (Instr.entryStore t m i v).run P w = .ok () w' ∧ K undef w'
  | _, _, _ => False)
 | .call c => (match c.callee, evL E c.args.toList with
  | .builtin .append, some vs => Run P (Builtin.append_ c.argTypes o.type vs.toArray) w fun v w' => ∃ (A : Option Addr) (n c : Nat), v = .slice A n c ∧ K (.slice A n c) w'
  | .builtin .copy, some vs => Run P (Builtin.copy_ c.argTypes o.type vs.toArray) w fun v w' => ∃ n : Int, v = .int .i64 n ∧ K (.int .i64 n) w'
  | .builtin .clear, some vs => Run P (Builtin.clear_ c.argTypes o.type vs.toArray) w fun v w' => v = .tuple #[] ∧ K (.tuple #[]) w'
  | .value f, some vs => (match ev E f with
   | some (.func (.func g) first cap) => Cll P g (first ++ vs.toArray ++ cap) w fun v w' => dec P 4 o.type v fun v => K v w'
   | _ => False)
  | _, _ => False)
 | _ => False

theorem qdO {P : Program} {f : FuncId} (h : qe3 P f = true) (args : Array Value) (w : World) : (callFunc f args).run P w = .ok (.enter f args) w := by
 unfold qe3 at h
 split at h
 ·rename_i fn hf
  simp only [Bool.and_eq_true, bne_iff_ne, ne_eq] at h
  obtain ⟨h1, h2⟩ := h
  have h3 : fn.body.isNone = false := by cases hb : fn.body <;> simp [hb] at h2 ⊢
  simp only [callFunc, program, bind, Sem.bind, Sem.run, hf]
  rw [if_neg (by simpa using h1), h3]
  rfl
 ·cases h
theorem Cll.calls {P : Program} {f : FuncId} {args : Array Value} {w : World} {K : Value → World → Prop} (h : Cll P f args w K) (hp : qe3 P f = true := by kernel_rfl) : Calls P f args w fun e w' => ∃ v, e = .returned v ∧ K v w' := by
 cases h with
 | mk _ calls => exact calls
 | now run _ => rw [qdO hp] at run; cases run

theorem qcs {x : Int} (h : -9223372036854775808 ≤ x) (h' : x < 9223372036854775808) : IntKind.i64.wrap x = x := by
 have e : IntKind.i64.bits = 64 := rfl
 have g : IntKind.i64.signed = true := rfl
 unfold IntKind.wrap
 rw [e, g]
 simp only [Bool.true_and, decide_eq_true_eq]
 have p : (2 : Int) ^ 64 = 18446744073709551616 := by decide
 have q : (2 : Int) ^ (64 - 1) = 9223372036854775808 := by decide
 rw [p, q]
 split <;> omega

theorem qeE {P : Program} {t e : TypeId} {i : TypeInfo} {z : Value} {l c : Int} {k1 k2 : IntKind} (hu : P.underlying t = some (.slice e)) (hi : P.info? e = some i) (hz : i.zero = some z)
    (wl : IntKind.i64.wrap l = l) (wc : IntKind.i64.wrap c = c) (t1 : ¬ ((i.bytes : Int) * c > 2 ^ 48)) (hc0 : ¬ c < 0) (hl0 : ¬ l < 0) (hlc : ¬ l > c) (w : World) :
    (Instr.makeSlice t (.int k1 l) (.int k2 c)).run P w = .ok (.slice (some ⟨w.heap.size, 0, none⟩) l.toNat c.toNat) (w.alloc (.cells (qcj z.cells (c.toNat * i.size)) e)) := by
 have room : ∀ (n : Nat) (w : World), (askRoom n).run P w = .ok () w := by
  intro n w; unfold askRoom; split <;> simp [mark, Sem.run, pure]
 have cond : ((decide (c < 0) || decide ((i.bytes : Int) * c > 2 ^ 48)) || decide (l < 0) || decide (l > c)) = false := by
  simp only [Bool.or_eq_false_iff, decide_eq_false_iff_not]; exact ⟨⟨⟨hc0, t1⟩, hl0⟩, hlc⟩
 unfold Instr.makeSlice
 simp only [asInt, asIntOf, underlying, typeInfo, program, bind, Sem.bind, Sem.run_bind', Sem.run, hu, hi, pure, wl, wc, Result.andThen, sizeOf]
 simp only [cond, Bool.false_eq_true, if_false, Sem.bind, Sem.run_bind', room, Result.andThen, Sem.run]
 by_cases hn : c.toNat * i.size = 0
 ·have h0 : (Array.map (fun x => z.cells[x % z.cells.size]!) (Array.range 0)) = #[] := by apply Array.ext' ; simp
  simp [hn, newRow, newObj, bind, Sem.bind, Sem.run_bind', Sem.run, pure, qcj, hi, Result.andThen, h0]
  apply congrArg; congr 1; apply Array.ext'; simp
 ·simp [hn, newRow, newObj, bind, Sem.bind, Sem.run_bind', Sem.run, pure, qcj, hi, Result.andThen, zeroValue, typeInfo, program, hz]

set_option maxHeartbeats 1000000 in
theorem qdv {P : Program} {n : Nat} {a : Act} {E : Env} (hS : Sat n a E) {o : Oper} {w : World} {K : Value → World → Prop}
    {next : Act → World → Prop} {Q : Exit → Act → World → Prop} (hK : ∀ v w', K v w' → next (a.put o.dst v) w')
    (h : vcE P o E w K) : o.wp P a w next Q := by
 have val : ∀ {s : Sem Value} {v : Value} {w' : World}, execOp a.eval o = (do pure (Next.value (← s))) → s.run P w = .ok v w' → K v w' → o.wp P a w next Q := by
  intro s v w' he hr hk
  unfold Oper.wp
  rw [he]
  simp only [bind, Sem.run_bind', hr, Result.andThen]
  exact hK _ _ hk
 unfold vcE at h
 split at h
 ·rename_i t x y ho
  split at h
  ·rename_i ad v m hx hy hm
   cases hb : Nat.beq v.cells.size m with
   | false => simp [hb] at h
   | true =>
    simp only [hb, cond_true] at h
    obtain ⟨w', hr, hk⟩ := qcn (P := P) _ _ _ _ h
    have hsz : v.cells.size = m := Nat.eq_of_beq_eq_true hb
    obtain ⟨inf, hinf, hs⟩ : ∃ inf, P.info? t = some inf ∧ inf.size = m := by
     cases hi : P.info? t with
     | none => simp [hi] at hm
     | some inf => simp [hi] at hm; exact ⟨inf, rfl, hm⟩
    have e1 : (Instr.storeAt t (a.eval x) (a.eval y)).run P w = .ok () w' := by
     rw [hS.ev hx, hS.ev hy]
     have : (Instr.storeAt t (.pointer (some ad)) v).run P w = (storeCells ad v.cells.toList).run P w := by
      simp [Instr.storeAt, Instr.sureAddr, storeVar, sizeOf, typeInfo, program, bind, Sem.bind, Sem.run, hinf, hs, hsz, pure]
     rw [this, hr]
    unfold Oper.wp
    have e2 : execOp a.eval o = (do Instr.storeAt t (a.eval x) (a.eval y); pure Next.skip) := by simp [execOp, ho]
    rw [e2]
    simp only [bind, Sem.run_bind', e1, Result.andThen]
    exact hK _ _ hk
  ·exact h.elim
 ·rename_i t ho
  split at h
  ·rename_i z hz
   obtain ⟨inf, hinf, hzz⟩ : ∃ inf, P.info? t = some inf ∧ inf.zero = some z := by
    cases hi : P.info? t with
    | none => simp [hi] at hz
    | some inf => simp [hi] at hz; exact ⟨inf, rfl, hz⟩
   refine val (s := Instr.alloc t true (.tuple #[])) (by simp [execOp, ho]) (v := .pointer (some ⟨w.heap.size, 0, none⟩)) (w' := w.alloc (.cells z.cells t)) ?_ h
   simp [Instr.alloc, zeroValue, typeInfo, program, bind, Sem.bind, Sem.run, hinf, hzz, pure, newVar, newRow, newObj]
  ·exact h.elim
 ·rename_i t x ho
  split at h
  ·rename_i v hx
   refine val (s := Instr.box t (a.eval x)) (by simp [execOp, ho]) (v := .pointer (some ⟨w.heap.size, 0, none⟩)) (w' := w.alloc (.cells v.cells t)) ?_ h
   rw [hS.ev hx]
   simp [Instr.box, bind, Sem.bind, Sem.run, pure, newVar, newRow, newObj]
  ·exact h.elim
 ·rename_i t len parts ho
  split at h
  ·rename_i ps hp
   obtain ⟨v, w', hr, A, m, c, rfl, hk⟩ := h
   refine val (s := Instr.buildSlice t len (parts.map fun (i, x) => (i, a.eval x))) (by simp [execOp, ho]) ?_ hk
   have : (parts.map fun (i, x) => (i, a.eval x)) = ps.toArray := by
    apply Array.ext'; simp [← qf1 hS _ _ hp]
   rw [this]; exact hr
  ·exact h.elim
 ·rename_i t lo co ho
  split at h
  ·rename_i k1 l k2 c hl hc
   unfold qeX at h
   split at h
   ·rename_i e hu
    split at h
    ·rename_i i hi
     split at h
     ·rename_i z hz
      obtain ⟨h0, h1, h2, h3, hk⟩ := h
      refine val (s := Instr.makeSlice t (a.eval lo) (a.eval co)) (by simp [execOp, ho]) ?_ hk
      rw [hS.ev hl, hS.ev hc]
      have wl : IntKind.i64.wrap l = l := qcs (by omega) (by omega)
      have wc : IntKind.i64.wrap c = c := qcs (by omega) (by omega)
      have t1 : ¬ ((i.bytes : Int) * c > 2 ^ 48) := by omega
      have hc0 : ¬ c < 0 := by omega
      have hl0 : ¬ l < 0 := by omega
      have hlc : ¬ l > c := by omega
      exact qeE hu hi hz wl wc t1 hc0 hl0 hlc w
     ·exact h.elim
    ·exact h.elim
   ·exact h.elim
  ·exact h.elim
 ·rename_i t ho
  refine val (s := Instr.makeMap t none) (by simp [execOp, ho]) (v := .map (some w.heap.size)) (w' := w.alloc (.map #[] 0)) ?_ h
  simp [Instr.makeMap, bind, Sem.bind, Sem.run, pure, newObj]
 ·rename_i t x i ok ho
  split at h
  ·rename_i m key hx hi
   obtain ⟨v, w', hr, h⟩ := h
   have hk := qbG _ _ _ _ h
   refine val (s := Instr.lookup t (a.eval x) (a.eval i) ok) (by simp [execOp, ho]) ?_ hk
   rw [hS.ev hx, hS.ev hi]; exact hr
  ·exact h.elim
 ·rename_i t m x y ho
  split at h
  ·rename_i mv key v hm hx hy
   obtain ⟨w', hr, hk⟩ := h
   unfold Oper.wp
   have e2 : execOp a.eval o = (do Instr.mapUpdate t (a.eval m) (a.eval x) (a.eval y); pure Next.skip) := by simp [execOp, ho]
   rw [e2, hS.ev hm, hS.ev hx, hS.ev hy]
   simp only [bind, Sem.run_bind', hr, Result.andThen]
   exact hK _ _ hk
  ·exact h.elim
 ·rename_i t m x ho
  split at h
  ·rename_i mv key hm hx
   obtain ⟨v, w', hr, A, n, c, i, rfl, hk⟩ := h
   refine val (s := Instr.mapEntry t (a.eval m) (a.eval x)) (by simp [execOp, ho]) ?_ hk
   rw [hS.ev hm, hS.ev hx]; exact hr
  ·exact h.elim
 ·rename_i t m x y ho
  split at h
  ·rename_i mv key v hm hx hy
   obtain ⟨w', hr, hk⟩ := h
   unfold Oper.wp
   have e2 : execOp a.eval o = (do Instr.entryStore t (a.eval m) (a.eval x) (a.eval y); pure Next.skip) := by simp [execOp, ho]
   rw [e2, hS.ev hm, hS.ev hx, hS.ev hy]
   simp only [bind, Sem.run_bind', hr, Result.andThen]
   exact hK _ _ hk
  ·exact h.elim
 ·rename_i c ho
  have hargs : ∀ vs, evL E c.args.toList = some vs → c.args.map a.eval = vs.toArray := fun vs hvs => by
   apply Array.ext'; simp [← qeS hS _ _ hvs]
  split at h
  ·rename_i vs hc hvs
   obtain ⟨v, w', hr, A, m, cc, rfl, hk⟩ := h
   refine val (s := Builtin.append_ c.argTypes o.type vs.toArray) ?_ hr hk
   simp [execOp, ho, resolve, hc, hargs vs hvs, invoke, builtin, bind, Sem.bind, pure]
  ·rename_i vs hc hvs
   obtain ⟨v, w', hr, m, rfl, hk⟩ := h
   refine val (s := Builtin.copy_ c.argTypes o.type vs.toArray) ?_ hr hk
   simp [execOp, ho, resolve, hc, hargs vs hvs, invoke, builtin, bind, Sem.bind, pure]
  ·rename_i vs hc hvs
   obtain ⟨v, w', hr, rfl, hk⟩ := h
   refine val (s := Builtin.clear_ c.argTypes o.type vs.toArray) ?_ hr hk
   simp [execOp, ho, resolve, hc, hargs vs hvs, invoke, builtin, bind, Sem.bind, pure]
  ·rename_i f vs hc hvs
   split at h
   ·rename_i g first cap hf
    have hcf : execOp a.eval o = callFunc g (first ++ vs.toArray ++ cap) := by
     simp [execOp, ho, resolve, hc, hargs vs hvs, Deferred.ofValue, hS.ev hf, invoke, bind, Sem.bind, pure]
    unfold Oper.wp
    rw [hcf]
    cases h with
    | mk plain calls =>
     rw [qdO plain]
     refine calls.mono fun e w' ⟨v, he, hv⟩ => ?_
     subst he
     exact hK _ _ (qbG _ _ _ _ hv)
    | now hr hv =>
     rw [hr]
     exact hK _ _ (qbG _ _ _ _ hv)
   ·exact h.elim
  ·exact h.elim
 ·exact h.elim

def guarded (ops : Array Oper) (o : Oper) (E : Env) (run skip : Env → Prop) : Prop :=
 match o.guard with
 | none => run E
 | some (j, want) => (match (ops[j]?).bind (·.dst) with
  | none => False
  | some d => (match Env.get E d with
   | some (.bool b) => qa5 b (bif want then run ((d, .bool true) :: E) else skip ((d, .bool true) :: E)) (bif want then skip ((d, .bool false) :: E) else run ((d, .bool false) :: E))
   | some (.tuple _) => skip E
   | _ => False))

theorem qbJ {n : Nat} {a : Act} {E : Env} (hS : Sat n a E) {ops : Array Oper} {o : Oper} {run skip : Env → Prop} (h : guarded ops o E run skip) :
    (∃ E', Sat n a E' ∧ Region.wanted o (yielded ops a.tmps) = true ∧ run E') ∨ (∃ E', Sat n a E' ∧ Region.wanted o (yielded ops a.tmps) = false ∧ skip E') := by
 unfold guarded at h
 split at h
 ·rename_i hg
  exact .inl ⟨E, hS, by simp [Region.wanted, hg], h⟩
 ·rename_i j want hg
  split at h
  ·exact h.elim
  ·rename_i d hd
   split at h
   ·rename_i b hb
    have ht := hS.get d _ hb
    have hy : yielded ops a.tmps j = some b := by simp [yielded, hd, ht]
    have hw : Region.wanted o (yielded ops a.tmps) = (b == want) := by
     simp only [Region.wanted, hg, hy]
     cases b <;> cases want <;> rfl
    rw [qcD] at h
    cases b with
    | true =>
     have h' := h.1 rfl
     cases want with
     | true => exact .inl ⟨_, hS.cons ht, by rw [hw]; rfl, h'⟩
     | false => exact .inr ⟨_, hS.cons ht, by rw [hw]; rfl, h'⟩
    | false =>
     have h' := h.2 rfl
     cases want with
     | true => exact .inr ⟨_, hS.cons ht, by rw [hw]; rfl, h'⟩
     | false => exact .inl ⟨_, hS.cons ht, by rw [hw]; rfl, h'⟩
   ·rename_i vs hb
    have ht := hS.get d _ hb
    have hy : yielded ops a.tmps j = none := by simp [yielded, hd, ht]
    exact .inr ⟨E, hS, by simp [Region.wanted, hg, hy], h⟩
   ·exact h.elim

def qeZ (P : Program) (n : Nat) (ops : Array Oper) (K : Env → World → Prop) : List Oper → Env → World → Prop
 | [], E, w => K E w
 | o :: rest, E, w =>
  guarded ops o E
   (fun E => bif qaS o then vcQ P o E (fun t ad k => ldT P t (fun i v => w.cell? (ad.add i) = some v) k) (fun v => put n o.dst v (fun E => qeZ P n ops K rest E w) E)
    else vcE P o E w (fun v w' => put n o.dst v (fun E => qeZ P n ops K rest E w') E))
   (fun E => put n o.dst undef (fun E => qeZ P n ops K rest E w) E)

theorem qfw {P : Program} {o : Oper} {a : Act} {w : World} {v : Value} {next : Act → World → Prop} {Q : Exit → Act → World → Prop}
    (h : (execOp a.eval o).run P w = .ok (.value v) w) (k : next (a.put o.dst v) w) : o.wp P a w next Q := by
 unfold Oper.wp; rw [h]; exact k

theorem qe7 {P : Program} {n : Nat} {ops : Array Oper} {K : Env → World → Prop} {Q : Exit → Act → World → Prop} : ∀ (l : List Oper) (a : Act) (E : Env) (w : World), Sat n a E →
    qeZ P n ops K l E w → (∀ a' E' w', Sat n a' E' → K E' w' → (∀ t, (∀ o ∈ l, o.dst ≠ some t) → a'.tmps[t]? = a.tmps[t]?) → Q .normal a' w') → wpList P ops Q l a w
 | [], a, E, w, hS, h, hQ => hQ a E w hS h (fun _ _ => rfl)
 | o :: rest, a, E, w, hS, h, hQ => by
  have go : ∀ {v : Value} {E : Env} {w' : World}, Sat n a E → put n o.dst v (fun E => qeZ P n ops K rest E w') E → wpList P ops Q rest (a.put o.dst v) w' := by
   intro v E w' hS hp
   obtain ⟨E', hS', hk, hu⟩ := qe8 hS hp
   exact qe7 rest _ E' w' hS' hk fun a' E'' w'' h1 h2 h3 => hQ a' E'' w'' h1 h2 fun t ht =>
    (h3 t fun o ho => ht o (List.mem_cons_of_mem _ ho)).trans (hu t fun e => ht o List.mem_cons_self e.symm)
  simp only [qeZ] at h
  unfold wpList
  rcases qbJ hS h with ⟨E', hS', hw, h⟩ | ⟨E', hS', hw, h⟩
  ·rw [if_pos hw]
   refine .inl ?_
   cases hq : qaS o with
   | true =>
    simp only [hq, cond_true] at h
    obtain ⟨v, hk, hr⟩ := qdn hS' (S := fun w' => w' = w) (fun t ad k hld =>
     let ⟨v, hk, hv⟩ := qd3 (a := ad) hld; ⟨v, hk, fun w' hw' => by subst hw'; exact hv _ (fun i v hi => hi)⟩) h
    exact qfw (hr w rfl) (go hS' hk)
   | false =>
    simp only [hq, cond_false] at h
    exact qdv hS' (fun v w' hk => go hS' hk) h
  ·rw [if_neg (by rw [hw]; simp)]
   exact go hS' h

def qcY (M : Nat → Prop) (w w' : World) : Prop := ∀ i, i < w.heap.size → ¬ M i → w'.heap[i]? = w.heap[i]?

def qgX (ops : Array Oper) (listed : Array Bool) (l : List Nat) : Option Nat :=
 l.find? fun i => (match ops[i]? with | some o => qaS o | none => false) && Region.free .any ops listed i

def qge : List Nat → (Nat → Prop) → Prop
 | [], _ => True
 | i :: l, p => p i ∧ qge l p
theorem qdR : ∀ {l : List Nat} {p : Nat → Prop}, qge l p → ∀ i ∈ l, p i
 | _ :: _, _, h, i, hi => by
  cases hi with
  | head => exact h.1
  | tail _ hi => exact qdR h.2 i hi

section
variable {P : Program} {ops : Array Oper} {Q : Exit → Act → World → Prop} {md : Region.Mode} {S : World → Prop} {z : Nat}
def qcP (P : Program) (md : Region.Mode) (ops : Array Oper) (Q : Exit → Act → World → Prop) (S : World → Prop) (z : Nat) : Nat → Array Bool → Act → World → Prop
 | 0, listed, a, w => Region.ready md ops listed = [] ∧ Q .normal a w
 | fuel + 1, listed, a, w =>
  (Region.ready md ops listed = [] → Q .normal a w) ∧
  ∀ i ∈ Region.ready md ops listed, wpOp P ops Q i (fun a' w' => (i = z ∨ S w') ∧ qcP P md ops Q S z fuel (listed.setIfInBounds i true) a' w') a w
theorem qeo : ∀ (fuel : Nat) (listed : Array Bool) (a : Act) (w : World), qcP P md ops Q S z fuel listed a w → wpAny P md ops Q fuel listed a w
 | 0, _, _, _, h => h
 | fuel + 1, _, _, _, h => ⟨h.1, fun i hi => wpOp_mono (fun a' w' h' => qeo fuel _ a' w' h'.2) (h.2 i hi)⟩
def qcH (md : Region.Mode) (ops : Array Oper) (listed : Array Bool) : Prop :=
 ∀ (k : Nat) (o : Oper), ops[k]? = some o → listed.getD k false = true → ∀ e ∈ o.after, Region.binds md e = true → listed.getD e.on false = true
theorem qeu (n : Nat) : qcH md ops (Array.replicate n false) := by
 intro k o _ h
 rw [Array.getD_eq_getD_getElem?, Array.getElem?_replicate] at h
 split at h <;> cases h
theorem qbV {listed : Array Bool} {i : Nat} (h : qcH md ops listed) (hi : i ∈ Region.ready md ops listed) : qcH md ops (listed.setIfInBounds i true) := by
 obtain ⟨_, o, ho, hall⟩ := mem_ready.1 hi
 intro k ok hk hl e he hb
 by_cases hik : i = k
 ·subst hik
  rw [ho] at hk
  cases hk
  exact getD_set_true (hall e he hb)
 ·rw [getD_set_ne false hik] at hl
  exact getD_set_true (h k ok hk hl e he hb)
def qfv (md : Region.Mode) (ops : Array Oper) (i : Nat) : Nat → Nat → Bool
 | 0, _ => false
 | f + 1, z => match ops[z]? with
  | some o => o.after.any fun e => Region.binds md e && (Nat.beq e.on i || qfv md ops i f e.on)
  | none => false
theorem qde {listed : Array Bool} {i : Nat} (h : qcH md ops listed) : ∀ (f z : Nat), (∀ o, ops[z]? = some o → ∀ e ∈ o.after, Region.binds md e = true → listed.getD e.on false = true) →
    qfv md ops i f z = true → listed.getD i false = true
 | 0, _, _, hw => by cases hw
 | f + 1, z, hz, hw => by
  unfold qfv at hw
  cases ho : ops[z]? with
  | none => rw [ho] at hw; cases hw
  | some o =>
   rw [ho] at hw
   simp only [Array.any_eq_true, Bool.and_eq_true, Bool.or_eq_true] at hw
   obtain ⟨k, hk, hb, hor⟩ := hw
   have hd := hz o ho _ (Array.getElem_mem hk) hb
   rcases hor with he | hr
   ·rw [Nat.eq_of_beq_eq_true he] at hd; exact hd
   ·exact qde h f _ (fun o' ho' => h _ o' ho' hd) hr
def waits (md : Region.Mode) (ops : Array Oper) (z i : Nat) : Bool := match ops[z]? with
 | some _ => qfv md ops i ops.size z
 | none => true
theorem qec {listed : Array Bool} {i : Nat} (h0 : listed.getD i true = false) (h1 : listed.getD i false = true) : False := by
 rcases Nat.lt_or_ge i listed.size with h' | h'
 ·simp [h'] at h0 h1; rw [h0] at h1; cases h1
 ·simp [Array.getElem?_eq_none h'] at h1
theorem qff {i : Nat} {oi : Oper} {v : Value} (hi : ops[i]? = some oi) (hsel : ∀ (j : Nat) (o : Oper) cs b, ops[j]? = some o → o.op ≠ .select cs b)
    (hQ : ∀ c a w, Q (.panic c) (a.put oi.dst v) w → Q (.panic c) a w) (hz : waits md ops z i = true) :
    ∀ (fuel : Nat) (listed : Array Bool) (a : Act) (w : World),
     qcH md ops listed → (∀ j oj, ops[j]? = some oj → j ≠ i → listed.getD j true = false → (∀ e ∈ oj.after, Region.binds md e = true → e.on ≠ i) → oi.apart ops oj = true) →
     i ∈ Region.ready md ops listed → YieldsIf P ops S oi v a → S w →
     qcP P md ops Q S z fuel (listed.setIfInBounds i true) (a.put oi.dst v) w → qcP P md ops Q S z (fuel + 1) listed a w := by
 intro fuel
 induction fuel with
 | zero =>
  intro listed a w _ _ hr hy hS H
  refine ⟨fun h => (by rw [h] at hr; cases hr), fun j hj => ?_⟩
  by_cases hji : j = i
  ·subst hji; exact hy.wpOp hi hS ⟨.inr hS, H⟩
  ·have := ready_mono hj hji
   rw [H.1] at this
   cases this
 | succ fuel ih =>
  intro listed a w hcl hfree hr hy hS H
  refine ⟨fun h => (by rw [h] at hr; cases hr), fun j hj => ?_⟩
  by_cases hji : j = i
  ·subst hji; exact hy.wpOp hi hS ⟨.inr hS, H⟩
  ·have h1 := H.2 j (ready_mono hj hji)
   obtain ⟨hjun, oj, hoj, hall⟩ := mem_ready.1 hj
   have hnot : ∀ e ∈ oj.after, Region.binds md e = true → e.on ≠ i := fun e he hb heq => by
    have h1 := hall e he hb
    have h0 := (mem_ready.1 hr).1
    rw [heq] at h1
    rcases Nat.lt_or_ge i listed.size with h' | h'
    ·simp [h'] at h0 h1; rw [h0] at h1; cases h1
    ·simp [Array.getElem?_eq_none h'] at h1
   have hjz : j ≠ z := by
    rintro rfl
    simp only [waits, hoj] at hz
    exact qec (mem_ready.1 hr).1 (qde hcl _ _ (fun o ho => by rw [hoj] at ho; cases ho; exact hall) hz)
   have h2 := wpOp_putIf hoj (hfree j oj hoj hji hjun hnot) (fun cs b => hsel i oi cs b hi) (fun cs b => hsel j oj cs b hoj) hQ hy h1
   have hfree' : ∀ k ok, ops[k]? = some ok → k ≠ i → (listed.setIfInBounds j true).getD k true = false →
       (∀ e ∈ ok.after, Region.binds md e = true → e.on ≠ i) → oi.apart ops ok = true := fun k ok hk hki hun hno => by
    refine hfree k ok hk hki ?_ hno
    by_cases hjk : j = k
    ·subst hjk; exact hjun
    ·rw [getD_set_ne true hjk] at hun; exact hun
   refine wpOp_mono (fun a' w' h3 => ?_) h2
   have hS' : S w' := h3.2.1.resolve_left hjz
   refine ⟨.inr hS', ih (listed.setIfInBounds j true) a' w' (qbV hcl hj) hfree' (ready_mono hr (Ne.symm hji)) h3.1 hS' ?_⟩
   rw [Array.setIfInBounds_comm _ _ hji]
   exact h3.2.2
theorem qdS {i : Nat} {oi : Oper} {v : Value} {fuel : Nat} {listed : Array Bool} {a : Act} {w : World} (hi : ops[i]? = some oi)
    (hs : Region.noSelect ops = true) (hf : Region.free md ops listed i = true) (hr : (Region.ready md ops listed).contains i = true) (hz : waits md ops z i = true)
    (hcl : qcH md ops listed) (hQ : ∀ c a w, Q (.panic c) (a.put oi.dst v) w → Q (.panic c) a w) (hy : YieldsIf P ops S oi v a) (hS : S w)
    (h : qcP P md ops Q S z fuel (listed.setIfInBounds i true) (a.put oi.dst v) w) : qcP P md ops Q S z (fuel + 1) listed a w :=
 qff hi (Region.noSelect_spec hs) hQ hz fuel listed a w hcl (Region.free_spec hi hf) (by simpa using hr) hy hS h
theorem qel {rs : List Nat} {fuel : Nat} {listed : Array Bool} {a : Act} {w : World} (hr : Region.ready md ops listed = rs) (hne : rs ≠ [])
    (h : ∀ i ∈ rs, wpOp P ops Q i (fun a' w' => (i = z ∨ S w') ∧ qcP P md ops Q S z fuel (listed.setIfInBounds i true) a' w') a w) : qcP P md ops Q S z (fuel + 1) listed a w :=
 ⟨fun h0 => absurd (hr ▸ h0) hne, hr ▸ h⟩
theorem qei {listed : Array Bool} {a : Act} {w : World} (hr : Region.ready md ops listed = []) (h : Q .normal a w) :
    ∀ fuel, qcP P md ops Q S z fuel listed a w
 | 0 => ⟨hr, h⟩
 | _ + 1 => ⟨fun _ => h, by rw [hr]; simp⟩
theorem qe0 {id : Nat} {a : Act} {w : World} (hm : P.follows .mixedOrders = true)
    (h : qcP P .any ops Q S z ops.size (Array.replicate ops.size false) a { w with drawn := w.drawn + 1 }) : (Code.region id ops true).wp P Q a w :=
 wp_region_any hm (qeo _ _ _ _ h)
end

def zOf (ops : Array Oper) : Nat :=
 bif (match ops[ops.size - 1]? with | some o => !qaS o | none => false) && (List.range (ops.size - 1)).all (waits .any ops (ops.size - 1)) then ops.size - 1 else ops.size
theorem qft (ops : Array Oper) : (∀ i o, ops[i]? = some o → i ≠ zOf ops → waits .any ops (zOf ops) i = true) ∧ (∀ o, ops[zOf ops]? = some o → qaS o = false) := by
 unfold zOf
 cases hb : (match ops[ops.size - 1]? with | some o => !qaS o | none => false) && (List.range (ops.size - 1)).all (waits .any ops (ops.size - 1)) with
 | true =>
  simp only [cond_true]
  rw [Bool.and_eq_true] at hb
  refine ⟨fun i o hi hne => ?_, fun o ho => ?_⟩
  ·have := (Array.getElem?_eq_some_iff.1 hi).1
   exact List.all_eq_true.1 hb.2 i (List.mem_range.2 (by omega))
  ·have := hb.1
   rw [ho] at this
   simpa using this
 | false =>
  simp only [cond_false]
  refine ⟨fun i o hi hne => ?_, fun o ho => ?_⟩
  ·unfold waits; rw [Array.getElem?_eq_none (Nat.le_refl _)]
  ·rw [Array.getElem?_eq_none (Nat.le_refl _)] at ho; cases ho
def qfC (ops : Array Oper) (z : Nat) (listed : Array Bool) : Prop := ∃ o, ops[z]? = some o ∧ ∀ e ∈ o.after, Region.binds .any e = true → listed.getD e.on false = true
theorem qds {ops : Array Oper} {z i : Nat} {listed : Array Bool} (h : qfC ops z listed) : qfC ops z (listed.setIfInBounds i true) :=
 let ⟨o, ho, ha⟩ := h; ⟨o, ho, fun e he hb => getD_set_true (ha e he hb)⟩
theorem qdT {ops : Array Oper} {z : Nat} {listed : Array Bool} (h : z ∈ Region.ready .any ops listed) : qfC ops z listed :=
 let ⟨_, o, ho, ha⟩ := mem_ready.1 h; ⟨o, ho, ha⟩
theorem qeF {ops : Array Oper} {z i : Nat} {listed : Array Bool} (hcl : qcH .any ops listed) (h : qfC ops z listed) (hi : i ∈ Region.ready .any ops listed) (hw : waits .any ops z i = true) : False := by
 obtain ⟨o, ho, ha⟩ := h
 simp only [waits, ho] at hw
 exact qec (mem_ready.1 hi).1 (qde hcl _ _ (fun o' ho' => by rw [ho] at ho'; cases ho'; exact ha) hw)

def qcm (P : Program) (n : Nat) (ops : Array Oper) (ld : TypeId → Addr → (Value → Prop) → Prop) (S : World → Prop) (z : Nat) (K : Env → World → Prop) : Nat → Array Bool → Env → World → Prop
 | 0, listed, E, w => bif (Region.ready .any ops listed).isEmpty then K E w else False
 | f + 1, listed, E, w =>
  match Region.ready .any ops listed with
  | [] => K E w
  | r :: rs => (match qgX ops listed (r :: rs) with
   | some i => (match ops[i]? with
    | some o => guarded ops o E
     (fun E => vcQ P o E ld (fun v => put n o.dst v (fun E => qcm P n ops ld S z K f (listed.setIfInBounds i true) E w) E))
     (fun E => put n o.dst undef (fun E => qcm P n ops ld S z K f (listed.setIfInBounds i true) E w) E)
    | none => False)
   | none => (match rs, ops[r]? with
    | [], some o => guarded ops o E
     (fun E => vcE P o E w (fun v w' => bif Nat.beq r z then put n o.dst v (fun E => qcm P n ops ld S z K f (listed.setIfInBounds r true) E w') E else S w' ∧ put n o.dst v (fun E => qcm P n ops ld S z K f (listed.setIfInBounds r true) E w') E))
     (fun E => put n o.dst undef (fun E => qcm P n ops ld S z K f (listed.setIfInBounds r true) E w) E)
    | [], none => False
    | _ :: _, _ => qge (r :: rs) fun i => (match ops[i]? with
     | some o => guarded ops o E
      (fun E => vcE P o E w (fun v w' => bif Nat.beq i z then put n o.dst v (fun E => qcm P n ops ld S z K f (listed.setIfInBounds i true) E w') E else S w' ∧ put n o.dst v (fun E => qcm P n ops ld S z K f (listed.setIfInBounds i true) E w') E))
      (fun E => put n o.dst undef (fun E => qcm P n ops ld S z K f (listed.setIfInBounds i true) E w) E)
     | none => False)))

theorem qcU {P : Program} {n : Nat} {ops : Array Oper} {ld : TypeId → Addr → (Value → Prop) → Prop} {S : World → Prop} {z : Nat} {K : Env → World → Prop} {Q : Exit → Act → World → Prop}
    (hz : (∀ i o, ops[i]? = some o → i ≠ z → waits .any ops z i = true) ∧ (∀ o, ops[z]? = some o → qaS o = false)) (hs : Region.noSelect ops = true) (hld : ∀ t ad k, ld t ad k → ∃ v, k v ∧ ∀ w, S w → (loadVar t ad).run P w = .ok v w) (hP : ∀ c a w, ¬ Q (.panic c) a w) (a0 : Act)
    (hQ : ∀ a' E' w', Sat n a' E' → K E' w' → (∀ t, (∀ o ∈ ops.toList, o.dst ≠ some t) → a'.tmps[t]? = a0.tmps[t]?) → Q .normal a' w') :
    ∀ (f : Nat) (listed : Array Bool) (a : Act) (E : Env) (w : World), Sat n a E → qcH .any ops listed → (S w ∨ qfC ops z listed) → (∀ t, (∀ o ∈ ops.toList, o.dst ≠ some t) → a.tmps[t]? = a0.tmps[t]?) →
     qcm P n ops ld S z K f listed E w → qcP P .any ops Q S z f listed a w
 | 0, listed, a, E, w, hS, hcl, hw, hu, h => by
  simp only [qcm] at h
  cases hr : Region.ready .any ops listed with
  | nil =>
   rw [hr] at h
   exact qei hr (hQ a E w hS h hu) 0
  | cons r rs => rw [hr] at h; exact h.elim
 | f + 1, listed, a, E, w, hS, hcl, hw, hu, h => by
  have turn : ∀ {o : Oper} {i : Nat} {v : Value} {w' : World} {E : Env}, ops[i]? = some o → qcH .any ops (listed.setIfInBounds i true) → Sat n a E → (S w' ∨ qfC ops z (listed.setIfInBounds i true)) →
      put n o.dst v (fun E => qcm P n ops ld S z K f (listed.setIfInBounds i true) E w') E →
      qcP P .any ops Q S z f (listed.setIfInBounds i true) (a.put o.dst v) w' := by
   intro o i v w' E ho hcl' hS hw' hp
   obtain ⟨E', hS', hk, hch⟩ := qe8 hS hp
   refine qcU hz hs hld hP a0 hQ f _ _ E' w' hS' hcl' hw' (fun t ht => (hch t ?_).trans (hu t ht)) hk
   intro e
   exact ht o (Array.mem_toList_iff.2 (Array.mem_of_getElem? ho)) e.symm
  simp only [qcm] at h
  split at h
  ·rename_i hr
   exact qei hr (hQ a E w hS h hu) _
  ·rename_i r rs hr
   split at h
   ·rename_i i hi
    split at h
    ·rename_i o ho
     have hp := List.find?_some hi
     simp only [Bool.and_eq_true] at hp
     have hmem := List.mem_of_find?_eq_some hi
     have hready : (Region.ready .any ops listed).contains i = true := by rw [hr]; simpa using hmem
     have hmem' : i ∈ Region.ready .any ops listed := by simpa using hready
     have hiz : i ≠ z := by
      rintro rfl
      have := hz.2 o ho
      have h2 := hp.1
      rw [ho] at h2
      simp only [this] at h2
      cases h2
     have hwt' := hz.1 i o ho hiz
     have hw0 : S w := hw.resolve_right fun hd => qeF hcl hd hmem' hwt'
     rcases qbJ hS h with ⟨E', hS', hwt, h⟩ | ⟨E', hS', hwt, h⟩
     ·obtain ⟨v, hk, hrun⟩ := qdn hS' (S := S) hld h
      exact qdS ho hs hp.2 hready hwt' hcl (fun c a w hc => (hP _ _ _ hc).elim) (.inl ⟨hwt, hrun⟩) hw0 (turn ho (qbV hcl hmem') hS' (.inl hw0) hk)
     ·exact qdS ho hs hp.2 hready hwt' hcl (fun c a w hc => (hP _ _ _ hc).elim) (.inr ⟨hwt, rfl⟩) hw0 (turn ho (qbV hcl hmem') hS' (.inl hw0) h)
    ·exact h.elim
   ·split at h
    ·rename_i o ho _
     refine qel hr (by simp) fun i hi => ?_
     have hmem' : i ∈ Region.ready .any ops listed := by rw [hr]; exact hi
     have : i = r := by simpa using hi
     subst this
     unfold wpOp
     simp only [ho]
     rcases qbJ hS h with ⟨E', hS', hwt, h⟩ | ⟨E', hS', hwt, h⟩
     ·rw [if_pos hwt]
      exact .inl (qdv hS' (fun v w' hk => by
       cases hb : Nat.beq i z with
       | true =>
        have hiz : i = z := Nat.eq_of_beq_eq_true hb
        rw [hb] at hk
        exact ⟨.inl hiz, turn ho (qbV hcl hmem') hS' (.inr (qds (hiz ▸ qdT hmem'))) hk⟩
       | false =>
        rw [hb] at hk
        exact ⟨.inr hk.1, turn ho (qbV hcl hmem') hS' (.inl hk.1) hk.2⟩) h)
     ·rw [if_neg (by rw [hwt]; simp)]
      have hiz : i = z ∨ S w := by
          by_cases e : i = z
          ·exact .inl e
          ·exact .inr (hw.resolve_right fun hd => qeF hcl hd hmem' (hz.1 i o ho e))
      exact ⟨hiz, turn ho (qbV hcl hmem') hS' (hw.imp id qds) h⟩
    ·exact h.elim
    ·refine qel hr (by simp) fun i hi => ?_
     have hmem' : i ∈ Region.ready .any ops listed := by rw [hr]; exact hi
     have h := qdR h i hi
     split at h
     ·rename_i o ho
      unfold wpOp
      simp only [ho]
      rcases qbJ hS h with ⟨E', hS', hwt, h⟩ | ⟨E', hS', hwt, h⟩
      ·rw [if_pos hwt]
       exact .inl (qdv hS' (fun v w' hk => by
       cases hb : Nat.beq i z with
       | true =>
        have hiz : i = z := Nat.eq_of_beq_eq_true hb
        rw [hb] at hk
        exact ⟨.inl hiz, turn ho (qbV hcl hmem') hS' (.inr (qds (hiz ▸ qdT hmem'))) hk⟩
       | false =>
        rw [hb] at hk
        exact ⟨.inr hk.1, turn ho (qbV hcl hmem') hS' (.inl hk.1) hk.2⟩) h)
      ·rw [if_neg (by rw [hwt]; simp)]
       have hiz : i = z ∨ S w := by
        by_cases e : i = z
        ·exact .inl e
        ·exact .inr (hw.resolve_right fun hd => qeF hcl hd hmem' (hz.1 i o ho e))
       exact ⟨hiz, turn ho (qbV hcl hmem') hS' (hw.imp id qds) h⟩
     ·exact h.elim

def isLoad (o : Oper) : Bool := match o.op with
 | .load .. => true
 | _ => false
def qgZ (ops : Array Oper) (listed : Array Bool) (l : List Nat) : Option Nat :=
 l.find? fun i => (match ops[i]? with | some o => qaS o && !isLoad o | none => false) && Region.free .any ops listed i
def qcy (P : Program) (n : Nat) (ops : Array Oper) (K : Env → World → Prop) : Nat → Array Bool → Env → World → Prop
 | 0, listed, E, w => bif (Region.ready .any ops listed).isEmpty then K E w else False
 | f + 1, listed, E, w =>
  match Region.ready .any ops listed with
  | [] => K E w
  | r :: rs => (match qgZ ops listed (r :: rs) with
   | some i => (match ops[i]? with
    | some o => guarded ops o E
     (fun E => vcQ P o E (fun _ _ _ => False) (fun v => put n o.dst v (fun E => qcy P n ops K f (listed.setIfInBounds i true) E w) E))
     (fun E => put n o.dst undef (fun E => qcy P n ops K f (listed.setIfInBounds i true) E w) E)
    | none => False)
   | none => qge (r :: rs) fun i => (match ops[i]? with
    | some o => guarded ops o E
     (fun E => bif qaS o then vcQ P o E (fun t ad k => ldT P t (fun i v => w.cell? (ad.add i) = some v) k) (fun v => put n o.dst v (fun E => qcy P n ops K f (listed.setIfInBounds i true) E w) E)
      else vcE P o E w (fun v w' => put n o.dst v (fun E => qcy P n ops K f (listed.setIfInBounds i true) E w') E))
     (fun E => put n o.dst undef (fun E => qcy P n ops K f (listed.setIfInBounds i true) E w) E)
    | none => False))

theorem qdp {P : Program} {n : Nat} {ops : Array Oper} {K : Env → World → Prop} {Q : Exit → Act → World → Prop}
    (hs : Region.noSelect ops = true) (hP : ∀ c a w, ¬ Q (.panic c) a w) (a0 : Act)
    (hQ : ∀ a' E' w', Sat n a' E' → K E' w' → (∀ t, (∀ o ∈ ops.toList, o.dst ≠ some t) → a'.tmps[t]? = a0.tmps[t]?) → Q .normal a' w') :
    ∀ (f : Nat) (listed : Array Bool) (a : Act) (E : Env) (w : World), Sat n a E → (∀ t, (∀ o ∈ ops.toList, o.dst ≠ some t) → a.tmps[t]? = a0.tmps[t]?) →
     qcy P n ops K f listed E w → wpAnyH P .any ops Q (fun _ => True) f listed a w
 | 0, listed, a, E, w, hS, hu, h => by
  simp only [qcy] at h
  cases hr : Region.ready .any ops listed with
  | nil =>
   rw [hr] at h
   exact wpAnyH_done hr (hQ a E w hS h hu) 0
  | cons r rs => rw [hr] at h; exact h.elim
 | f + 1, listed, a, E, w, hS, hu, h => by
  have turn : ∀ {o : Oper} {i : Nat} {v : Value} {w' : World} {E : Env}, ops[i]? = some o → Sat n a E →
      put n o.dst v (fun E => qcy P n ops K f (listed.setIfInBounds i true) E w') E →
      wpAnyH P .any ops Q (fun _ => True) f (listed.setIfInBounds i true) (a.put o.dst v) w' := by
   intro o i v w' E ho hS hp
   obtain ⟨E', hS', hk, hch⟩ := qe8 hS hp
   refine qdp hs hP a0 hQ f _ _ E' w' hS' (fun t ht => (hch t ?_).trans (hu t ht)) hk
   intro e
   exact ht o (Array.mem_toList_iff.2 (Array.mem_of_getElem? ho)) e.symm
  simp only [qcy] at h
  split at h
  ·rename_i hr
   exact wpAnyH_done hr (hQ a E w hS h hu) _
  ·rename_i r rs hr
   split at h
   ·rename_i i hi
    split at h
    ·rename_i o ho
     have hp := List.find?_some hi
     simp only [Bool.and_eq_true] at hp
     have hmem := List.mem_of_find?_eq_some hi
     have hready : (Region.ready .any ops listed).contains i = true := by rw [hr]; simpa using hmem
     rcases qbJ hS h with ⟨E', hS', hwt, h⟩ | ⟨E', hS', hwt, h⟩
     ·obtain ⟨v, hk, hrun⟩ := qdn hS' (S := fun _ => True) (fun _ _ _ hld => hld.elim) h
      exact wpAnyH_take ho hs hp.2 hready (fun c a w hc => (hP _ _ _ hc).elim) (.inl ⟨hwt, hrun⟩) trivial (turn ho hS' hk)
     ·exact wpAnyH_take ho hs hp.2 hready (fun c a w hc => (hP _ _ _ hc).elim) (.inr ⟨hwt, rfl⟩) trivial (turn ho hS' h)
    ·exact h.elim
   ·refine wpAnyH_all hr (by simp) fun i hi => ?_
    have h := qdR h i hi
    split at h
    ·rename_i o ho
     unfold wpOp
     simp only [ho]
     rcases qbJ hS h with ⟨E', hS', hwt, h⟩ | ⟨E', hS', hwt, h⟩
     ·rw [if_pos hwt]
      refine .inl ?_
      cases hq : qaS o with
      | true =>
       simp only [hq, cond_true] at h
       obtain ⟨v, hk, hr⟩ := qdn hS' (S := fun w' => w' = w) (fun t ad k hld =>
        let ⟨v, hk, hv⟩ := qd3 (a := ad) hld; ⟨v, hk, fun w' hw' => by subst hw'; exact hv _ (fun i v hi => hi)⟩) h
       exact qfw (hr w rfl) ⟨trivial, turn ho hS' hk⟩
      | false =>
       simp only [hq, cond_false] at h
       exact qdv hS' (fun v w' hk => ⟨trivial, turn ho hS' hk⟩) h
     ·rw [if_neg (by rw [hwt]; simp)]
      exact ⟨trivial, turn ho hS' h⟩
    ·exact h.elim

inductive Ty where
 | int (k : IntKind) | bool | str | sl | ptr | map | val
def Ty.T : Ty → Type
 | .int _ => Int
 | .bool => Bool
 | .str => ByteArray
 | .sl => Option Addr × Nat × Nat
 | .ptr => Addr
 | .map => Nat
 | .val => Value
def Ty.enc : (t : Ty) → t.T → Value
 | .int k, (n : Int) => .int k n
 | .bool, (b : Bool) => .bool b
 | .str, (s : ByteArray) => .string s
 | .sl, (x : Option Addr × Nat × Nat) => .slice x.1 x.2.1 x.2.2
 | .ptr, (a : Addr) => .pointer (some a)
 | .map, (r : Nat) => .map (some r)
 | .val, (v : Value) => v
def Ty.dec : (t : Ty) → Value → (t.T → Prop) → Prop
 | .int k, .int k' n, f => bif k == k' then f n else False
 | .bool, .bool b, f => f b
 | .str, .string s, f => f s
 | .sl, .slice A n c, f => f (A, n, c)
 | .ptr, .pointer (some a), f => f a
 | .map, .map (some r), f => f r
 | .val, v, f => f v
 | _, _, _ => False
theorem Ty.qbG {t : Ty} {v : Value} {f : t.T → Prop} (h : t.dec v f) : ∃ x, v = t.enc x ∧ f x := by
 cases t with
 | int k =>
  cases v <;> simp only [Ty.dec] at h
  rename_i k' n
  cases hk : k == k' with
  | false => simp [hk] at h
  | true => simp only [hk, cond_true] at h; have : k = k' := by simpa using hk
            subst this; exact ⟨n, rfl, h⟩
 | bool => cases v <;> simp only [Ty.dec] at h; exact ⟨_, rfl, h⟩
 | str => cases v <;> simp only [Ty.dec] at h; exact ⟨_, rfl, h⟩
 | sl => cases v <;> simp only [Ty.dec] at h; exact ⟨_, rfl, h⟩
 | ptr =>
  cases v <;> simp only [Ty.dec] at h
  rename_i a
  cases a <;> simp only [Ty.dec] at h; exact ⟨_, rfl, h⟩
 | map =>
  cases v <;> simp only [Ty.dec] at h
  rename_i a
  cases a <;> simp only [Ty.dec] at h; exact ⟨_, rfl, h⟩
 | val => exact ⟨v, rfl, by cases v <;> exact h⟩

abbrev Hd := List (Nat × Ty)
def Hd.T : Hd → Type
 | [] => Unit
 | p :: r => p.2.T × Hd.T r
def Hd.enc : (h : Hd) → Hd.T h → Env
 | [], _ => []
 | p :: r, x => (p.1, p.2.enc x.1) :: Hd.enc r x.2
def Hd.dec : (h : Hd) → Env → (Hd.T h → Prop) → Prop
 | [], _, f => f ()
 | p :: r, E, f => match Env.get E p.1 with
  | some v => p.2.dec v fun x => Hd.dec r E fun y => f (x, y)
  | none => False
theorem Hd.qbG {n : Nat} {a : Act} {E : Env} (hS : Sat n a E) : ∀ (h : Hd) (f : Hd.T h → Prop), Hd.dec h E f → ∃ x, f x ∧ ∀ E', Sat n a E' → Sat n a (Hd.enc h x ++ E')
 | [], f, h => ⟨(), h, fun _ h => h⟩
 | p :: r, f, h => by
  simp only [Hd.dec] at h
  split at h
  ·rename_i v hv
   obtain ⟨x, rfl, h2⟩ := Ty.qbG h
   obtain ⟨y, hy, hs⟩ := Hd.qbG hS r (fun y => f (x, y)) h2
   exact ⟨(x, y), hy, fun E' hE => (hs E' hE).cons (hS.get _ _ hv)⟩
  ·exact h.elim

def qe9 {σ : Type} (B : σ → World → (σ → World → Prop) → Prop) (x : σ) (w : World) : Prop :=
 ∃ (I : Nat → σ → World → Prop), (∃ m, I m x w) ∧ ∀ m x w, I m x w → B x w fun x' w' => ∃ m', m' < m ∧ I m' x' w'
def qg0 {σ : Type} (A : (σ → World → Prop) → Prop) (B : σ → World → Prop) : Prop := ∃ J : σ → World → Prop, A J ∧ ∀ x w, J x w → B x w

inductive Ann where
 | l
 | each
 | seq (a b : Ann)
 | cut (h : Hd) (a b : Ann)
 | two (a b : Ann)
 | one (a : Ann)
 | loop (h : Hd) (a : Ann)

def wr : Code → List Nat
 | .region _ ops _ => ops.toList.filterMap (·.dst)
 | .seq a b => wr a ++ wr b
 | .cond _ a b => wr a ++ wr b
 | .block _ a => wr a
 | .loop a => wr a
 | _ => []

def memN (t : Nat) : List Nat → Bool
 | [] => false
 | u :: r => bif Nat.beq t u then true else memN t r
theorem qdV {t : Nat} : ∀ {l : List Nat}, t ∈ l → memN t l = true
 | [], h => by cases h
 | u :: r, h => by
  simp only [memN]
  by_cases e : t = u
  ·subst e; simp
  ·rw [qcR e]
   exact qdV ((List.mem_cons.1 h).resolve_left e)
def Env.without (ws : List Nat) : Env → Env
 | [] => []
 | p :: r => bif memN p.1 ws then Env.without ws r else p :: Env.without ws r
theorem Env.qdj {ws : List Nat} {t : Nat} {v : Value} : ∀ {E : Env}, Env.get (Env.without ws E) t = some v → Env.get E t = some v ∧ t ∉ ws
 | [], h => by simp [Env.without, Env.get] at h
 | p :: r, h => by
  simp only [Env.without] at h
  cases hm : memN p.1 ws with
  | true =>
   rw [hm] at h
   obtain ⟨h1, h2⟩ := Env.qdj (E := r) h
   refine ⟨?_, h2⟩
   simp only [Env.get]
   by_cases e : p.1 = t
   ·subst e
    exact absurd (Env.without_mem h) (by
     intro hin; rw [hm] at hin; cases hin)
   ·rw [qcR e]; exact h1
  | false =>
   rw [hm] at h
   simp only [cond_false, Env.get] at h ⊢
   by_cases e : p.1 = t
   ·subst e
    simp at h
    refine ⟨by simpa using h, fun hin => ?_⟩
    rw [qdV hin] at hm; cases hm
   ·rw [qcR e] at h ⊢
    exact Env.qdj (E := r) h
where Env.without_mem {ws : List Nat} {t : Nat} {v : Value} : ∀ {E : Env}, Env.get (Env.without ws E) t = some v → memN t ws = false
 | [], h => by simp [Env.without, Env.get] at h
 | p :: r, h => by
  simp only [Env.without] at h
  cases hm : memN p.1 ws with
  | true => rw [hm] at h; exact Env.without_mem (E := r) h
  | false =>
   rw [hm] at h
   simp only [cond_false, Env.get] at h
   by_cases e : p.1 = t
   ·subst e; exact hm
   ·rw [qcR e] at h; exact Env.without_mem (E := r) h

def qgJ (K : Env → World → Prop) (Q : Exit → Env → World → Prop) : Exit → Env → World → Prop
 | .normal => K
 | e => Q e
def qgr (id : Nat) (Q : Exit → Env → World → Prop) : Exit → Env → World → Prop
 | .exit j => bif Nat.beq j id then Q .normal else Q (.exit j)
 | e => Q e

def qfg (E : Env) (c : Operand) (t : Bool) : Env :=
 match c with
 | .tmp s => (s, .bool t) :: E
 | _ => E

def qeQ (ops : Array Oper) : Bool := ops.toList.all qaS

def vc (P : Program) (n : Nat) : Ann → Code → (Exit → Env → World → Prop) → Env → World → Prop
 | _, .skip, Q, E, w => Q .normal E w
 | .each, .region _ ops d, Q, E, w =>
  bif d then
   (bif Region.noSelect ops then qcy P n ops (Q .normal) ops.size (Array.replicate ops.size false) E w.drew else False)
  else False
 | _, .region _ ops d, Q, E, w =>
  bif d then
   (bif Region.noSelect ops then
    (bif qeQ ops then
     qcm P n ops (fun t ad k => ldT P t (fun i v => w.cell? (ad.add i) = some v) k) (fun w' => w'.heap = w.heap) (zOf ops) (Q .normal) ops.size (Array.replicate ops.size false) E w.drew
    else ∃ M : Nat → Prop,
     qcm P n ops (fun t ad k => ldT P t (fun i v => ¬ M ad.block ∧ w.cell? (ad.add i) = some v) k) (qcY M w) (zOf ops) (Q .normal) ops.size (Array.replicate ops.size false) E w.drew)
   else False)
  else qeZ P n ops (Q .normal) ops.toList E w
 | .seq a b, .seq x y, Q, E, w => vc P n a x (qgJ (fun E w => vc P n b y Q E w) Q) E w
 | .cut h a b, .seq x y, Q, E, w =>
  qg0 (σ := Hd.T h) (fun J => vc P n a x (qgJ (fun E' w' => Hd.dec h E' fun z => J z w') Q) E w) fun z w' => vc P n b y Q (Hd.enc h z ++ Env.without (wr x) E) w'
 | .two a b, .cond c x y, Q, E, w => (match ev E c with
  | some (.bool t) => qa5 t (vc P n a x Q (qfg E c true) w) (vc P n b y Q (qfg E c false) w)
  | _ => False)
 | .one a, .block id x, Q, E, w => vc P n a x (qgr id Q) E w
 | .loop h a, .loop x, Q, E, w =>
  Hd.dec h E fun z => qe9 (σ := Hd.T h) (fun z w next => vc P n a x (qgJ (fun E' w' => Hd.dec h E' fun z' => next z' w') Q) (Hd.enc h z ++ Env.without (wr x) E) w) z w
 | _, .exit id, Q, E, w => Q (.exit id) E w
 | _, .ret, Q, E, w => Q .ret E w
 | _, _, _, _, _ => False

def okE : Exit → Prop
 | .normal => True
 | .exit _ => True
 | .ret => True
 | _ => False

def lift (n : Nat) (a0 : Act) (ws : List Nat) (Q : Exit → Env → World → Prop) : Exit → Act → World → Prop := fun e a w =>
 okE e ∧ (∃ E, Sat n a E ∧ Q e E w) ∧ ∀ t, t ∉ ws → a.tmps[t]? = a0.tmps[t]?

theorem Sat.without {n : Nat} {a a' : Act} {E : Env} (h : Sat n a E) (h' : a'.defers = [] ∧ a'.tmps.size = n) {ws : List Nat} (hu : ∀ t, t ∉ ws → a'.tmps[t]? = a.tmps[t]?) :
    Sat n a' (Env.without ws E) := ⟨h'.1, h'.2, fun t v hv => by
 obtain ⟨h1, h2⟩ := Env.qdj hv
 rw [hu t h2]; exact h.get t v h1⟩

theorem qdz {ops : Array Oper} {t : Nat} (h : t ∉ ops.toList.filterMap (·.dst)) : ∀ o ∈ ops.toList, o.dst ≠ some t := fun o ho e =>
 h (List.mem_filterMap.2 ⟨o, ho, e⟩)

set_option maxHeartbeats 1000000 in
theorem qgj {P : Program} {n : Nat} (hm : P.follows .mixedOrders = true) : ∀ (c : Code) (an : Ann) (Q : Exit → Env → World → Prop) (E : Env) (a : Act) (w : World), Sat n a E →
    vc P n an c Q E w → c.wp P (lift n a (wr c) Q) a w := by
 intro c
 induction c with
 | skip => intro an Q E a w hS h; exact wp_skip ⟨trivial, ⟨E, hS, by cases an <;> exact h⟩, fun _ _ => rfl⟩
 | region id ops d =>
  intro an Q E a w hS h
  by_cases han : an = .each
  ·subst han
   cases d with
   | false => exact h.elim
   | true =>
    simp only [vc, cond_true] at h
    cases hs : Region.noSelect ops with
    | false => rw [hs] at h; exact h.elim
    | true =>
     rw [hs] at h
     simp only [cond_true] at h
     exact wp_region_held (S := fun _ => True) hm (qdp hs (fun _ _ _ hc => hc.1) a (fun a' E' w' h1 h2 h3 => ⟨trivial, ⟨E', h1, h2⟩, fun t ht => h3 t (qdz ht)⟩) _ _ a E w.drew hS (fun _ _ => rfl) h)
  have h : (bif d then
   (bif Region.noSelect ops then
    (bif qeQ ops then
     qcm P n ops (fun t ad k => ldT P t (fun i v => w.cell? (ad.add i) = some v) k) (fun w' => w'.heap = w.heap) (zOf ops) (Q .normal) ops.size (Array.replicate ops.size false) E w.drew
    else ∃ M : Nat → Prop,
     qcm P n ops (fun t ad k => ldT P t (fun i v => ¬ M ad.block ∧ w.cell? (ad.add i) = some v) k) (qcY M w) (zOf ops) (Q .normal) ops.size (Array.replicate ops.size false) E w.drew)
   else False)
  else qeZ P n ops (Q .normal) ops.toList E w) := by cases an <;> first | exact h | exact absurd rfl han
  cases d with
  | false =>
   refine wp_region_list ?_
   exact qe7 ops.toList a E w hS h fun a' E' w' h1 h2 h3 => ⟨trivial, ⟨E', h1, h2⟩, fun t ht => h3 t (qdz ht)⟩
  | true =>
   simp only [cond_true] at h
   cases hs : Region.noSelect ops with
   | false => rw [hs] at h; exact h.elim
   | true =>
    rw [hs] at h
    simp only [cond_true] at h
    have fin : ∀ a' E' w', Sat n a' E' → Q .normal E' w' → (∀ t, (∀ o ∈ ops.toList, o.dst ≠ some t) → a'.tmps[t]? = a.tmps[t]?) → lift n a (wr (.region id ops true)) Q .normal a' w' :=
     fun a' E' w' h1 h2 h3 => ⟨trivial, ⟨E', h1, h2⟩, fun t ht => h3 t (qdz ht)⟩
    have hP : ∀ c a' w', ¬ lift n a (wr (.region id ops true)) Q (.panic c) a' w' := fun _ _ _ hc => hc.1
    cases hq : qeQ ops with
    | true =>
     rw [hq] at h
     refine qe0 (S := fun w' => w'.heap = w.heap) hm (qcU (qft ops) hs ?_ hP a fin _ _ a E w.drew hS (qeu _) (.inl rfl) (fun _ _ => rfl) h)
     intro t ad k hld
     obtain ⟨v, hk, hv⟩ := qd3 (a := ad) hld
     refine ⟨v, hk, fun w' hw' => hv w' fun i v hi => ?_⟩
     rw [← hi]; simp only [World.cell?, hw']
    | false =>
     rw [hq] at h
     obtain ⟨M, h⟩ := h
     refine qe0 (S := qcY M w) hm (qcU (qft ops) hs ?_ hP a fin _ _ a E w.drew hS (qeu _) (.inl fun _ _ _ => rfl) (fun _ _ => rfl) h)
     intro t ad k hld
     obtain ⟨v, hk, hv⟩ := qd3 (a := ad) hld
     refine ⟨v, hk, fun w' hw' => hv w' fun i v hi => ?_⟩
     have hb : (ad.add i).block = ad.block := by unfold Addr.add; split <;> rfl
     have hlt := World.block_lt_of_cell? w _ hi.2
     rw [← hi.2]
     exact World.cell?_of_block (w := w) (hw' _ hlt (by rw [hb]; exact hi.1))
 | seq x y ihx ihy =>
  intro an Q E a w hS h
  cases an with
  | seq p q =>
   refine wp_seq (Code.wp_mono ?_ (ihx p _ E a w hS h))
   rintro e a1 w1 ⟨hok, ⟨E1, hS1, hQ1⟩, hu1⟩
   cases e with
   | normal =>
    refine Code.wp_mono ?_ (ihy q Q E1 a1 w1 hS1 hQ1)
    rintro e2 a2 w2 ⟨hok2, hE2, hu2⟩
    exact ⟨hok2, hE2, fun t ht => (hu2 t fun h => ht (List.mem_append_right _ h)).trans (hu1 t fun h => ht (List.mem_append_left _ h))⟩
   | exit j => exact ⟨trivial, ⟨E1, hS1, hQ1⟩, fun t ht => hu1 t fun h => ht (List.mem_append_left _ h)⟩
   | ret => exact ⟨trivial, ⟨E1, hS1, hQ1⟩, fun t ht => hu1 t fun h => ht (List.mem_append_left _ h)⟩
   | _ => exact hok.elim
  | cut hd p q =>
   obtain ⟨J, h1, h2⟩ := h
   refine wp_seq (Code.wp_mono ?_ (ihx p _ E a w hS h1))
   rintro e a1 w1 ⟨hok, ⟨E1, hS1, hQ1⟩, hu1⟩
   cases e with
   | normal =>
    obtain ⟨z, hz, hs⟩ := Hd.qbG hS1 hd _ hQ1
    refine Code.wp_mono ?_ (ihy q Q _ a1 w1 (hs _ (hS.without ⟨hS1.defers, hS1.size⟩ hu1)) (h2 z w1 hz))
    rintro e2 a2 w2 ⟨hok2, hE2, hu2⟩
    exact ⟨hok2, hE2, fun t ht => (hu2 t fun h => ht (List.mem_append_right _ h)).trans (hu1 t fun h => ht (List.mem_append_left _ h))⟩
   | exit j => exact ⟨trivial, ⟨E1, hS1, hQ1⟩, fun t ht => hu1 t fun h => ht (List.mem_append_left _ h)⟩
   | ret => exact ⟨trivial, ⟨E1, hS1, hQ1⟩, fun t ht => hu1 t fun h => ht (List.mem_append_left _ h)⟩
   | _ => exact hok.elim
  | _ => exact h.elim
 | cond c x y ihx ihy =>
  intro an Q E a w hS h
  cases an with
  | two p q =>
   simp only [vc] at h
   split at h
   ·rename_i t ht
    have he := hS.ev ht
    have hSat : Sat n a (qfg E c t) := by
     cases c with
     | tmp s => exact hS.cons (hS.get s _ ht)
     | _ => exact hS
    rw [qcD] at h
    refine wp_cond he ?_
    cases t with
    | true =>
     refine Code.wp_mono ?_ (ihx p Q _ a w hSat (h.1 rfl))
     rintro e a1 w1 ⟨hok, hE, hu⟩
     exact ⟨hok, hE, fun t ht => hu t fun h => ht (List.mem_append_left _ h)⟩
    | false =>
     refine Code.wp_mono ?_ (ihy q Q _ a w hSat (h.2 rfl))
     rintro e a1 w1 ⟨hok, hE, hu⟩
     exact ⟨hok, hE, fun t ht => hu t fun h => ht (List.mem_append_right _ h)⟩
   ·exact h.elim
  | _ => exact h.elim
 | block id x ih =>
  intro an Q E a w hS h
  cases an with
  | one p =>
   refine wp_block (Code.wp_mono ?_ (ih p _ E a w hS h))
   rintro e a1 w1 ⟨hok, ⟨E1, hS1, hQ1⟩, hu⟩
   cases e with
   | exit j =>
    simp only [Exit.inBlock]
    simp only [qgr] at hQ1
    by_cases e : j = id
    ·subst e
     simp only [if_true]
     rw [show Nat.beq j j = true by simp] at hQ1
     exact ⟨trivial, ⟨E1, hS1, hQ1⟩, hu⟩
    ·rw [if_neg e]
     rw [qcR e] at hQ1
     exact ⟨trivial, ⟨E1, hS1, hQ1⟩, hu⟩
   | normal => exact ⟨trivial, ⟨E1, hS1, hQ1⟩, hu⟩
   | ret => exact ⟨trivial, ⟨E1, hS1, hQ1⟩, hu⟩
   | _ => exact hok.elim
  | _ => exact h.elim
 | loop x ih =>
  intro an Q E a w hS h
  cases an with
  | loop hd p =>
   simp only [vc] at h
   obtain ⟨z0, ⟨I, ⟨m0, h0⟩, hr⟩, hs0⟩ := Hd.qbG hS hd _ h
   refine wp_loop_ghost (fun m a' w' => ∃ z, I m z w' ∧ Sat n a' (Hd.enc hd z ++ Env.without (wr x) E) ∧ ∀ t, t ∉ wr x → a'.tmps[t]? = a.tmps[t]?) m0
    ⟨z0, h0, hs0 _ (hS.without ⟨hS.defers, hS.size⟩ (fun _ _ => rfl)), fun _ _ => rfl⟩ ?_
   rintro m a1 w1 ⟨z, hI, hSz, hu⟩
   refine Code.wp_mono ?_ (ih p _ _ a1 w1 hSz (hr m z w1 hI))
   rintro e a2 w2 ⟨hok, ⟨E2, hS2, hQ2⟩, hu2⟩
   have hu3 : ∀ t, t ∉ wr x → a2.tmps[t]? = a.tmps[t]? := fun t ht => (hu2 t ht).trans (hu t ht)
   cases e with
   | normal =>
    obtain ⟨z', ⟨m', hlt, hI'⟩, hs'⟩ := Hd.qbG hS2 hd _ hQ2
    exact ⟨m', hlt, z', hI', hs' _ (hS.without ⟨hS2.defers, hS2.size⟩ hu3), hu3⟩
   | exit j => exact ⟨trivial, ⟨E2, hS2, hQ2⟩, hu3⟩
   | ret => exact ⟨trivial, ⟨E2, hS2, hQ2⟩, hu3⟩
   | _ => exact hok.elim
  | _ => exact h.elim
 | exit id => intro an Q E a w hS h; exact wp_exit ⟨trivial, ⟨E, hS, by cases an <;> exact h⟩, fun _ _ => rfl⟩
 | ret => intro an Q E a w hS h; exact wp_ret ⟨trivial, ⟨E, hS, by cases an <;> exact h⟩, fun _ _ => rfl⟩
 | rangeFunc => intro an Q E a w hS h; cases an <;> exact h.elim
 | scope => intro an Q E a w hS h; cases an <;> exact h.elim
 | label => intro an Q E a w hS h; cases an <;> exact h.elim
 | goto => intro an Q E a w hS h; cases an <;> exact h.elim
 | refuse => intro an Q E a w hS h; cases an <;> exact h.elim

def qfe (P : Program) (rs : List ResultVar) (E : Env) (w : World) (K : List Value → Prop) : Prop :=
 match rs with
 | [] => K []
 | .tmp t :: rest => (match Env.get E t with
  | some v => qfe P rest E w fun vs => K (v :: vs)
  | none => False)
 | .cell p t :: rest => (match Env.get E p with
  | some (.pointer (some a)) => ldT P t (fun i v => w.cell? (a.add i) = some v) fun v => qfe P rest E w fun vs => K (v :: vs)
  | _ => False)

def qdA : List Value → Value
 | [v] => v
 | vs => .tuple vs.toArray

theorem qdk {P : Program} {n : Nat} {a : Act} {E : Env} (hS : Sat n a E) {w : World} : ∀ (rs : List ResultVar) (K : List Value → Prop), qfe P rs E w K →
    ∃ vs, K vs ∧ (rs.mapM (m := Sem) fun | .tmp t => pure (a.tmps.getD t undef) | .cell p t => do loadVar t (← asAddr (a.tmps.getD p undef))).run P w = .ok vs w
 | [], K, h => ⟨[], h, by simp [pure, Sem.run]⟩
 | .tmp t :: rest, K, h => by
  simp only [qfe] at h
  split at h
  ·rename_i v hv
   obtain ⟨vs, hk, hr⟩ := qdk hS rest _ h
   have := hS.get _ _ hv
   refine ⟨v :: vs, hk, ?_⟩
   simp only [List.mapM_cons, Sem.run_bind]
   rw [show (pure (a.tmps.getD t undef) : Sem Value).run P w = .ok v w by simp [this, pure, Sem.run]]
   simp only [Result.andThen]
   rw [hr]
   simp [Result.andThen, pure, Sem.run]
  ·exact h.elim
 | .cell p t :: rest, K, h => by
  simp only [qfe] at h
  split at h
  ·rename_i ad hv
   obtain ⟨v, h, hld⟩ := qd3 (a := ad) h
   obtain ⟨vs, hk, hr⟩ := qdk hS rest _ h
   have := hS.get _ _ hv
   refine ⟨v :: vs, hk, ?_⟩
   simp only [List.mapM_cons, Sem.run_bind]
   rw [show (asAddr (a.tmps.getD p undef) : Sem Addr).run P w = .ok ad w by simp [this, asAddr, pure, Sem.run]]
   simp only [Result.andThen]
   rw [hld w (fun i v hi => hi)]
   simp only []
   rw [hr]
   simp [Result.andThen, pure, Sem.run]
  ·exact h.elim

def qem : Nat → List Value → Env
 | _, [] => []
 | i, v :: vs => (i, v) :: qem (i + 1) vs
theorem qet : ∀ (vs : List Value) (i t : Nat) (v : Value), Env.get (qem i vs) t = some v → i ≤ t ∧ vs[t - i]? = some v
 | [], i, t, v, h => by simp [qem, Env.get] at h
 | u :: vs, i, t, v, h => by
  simp only [qem, Env.get] at h
  by_cases e : i = t
  ·subst e; simp at h; subst h; simp
  ·rw [qcR e] at h
   obtain ⟨h1, h2⟩ := qet vs (i + 1) t v h
   refine ⟨by omega, ?_⟩
   rw [show t - i = (t - (i + 1)) + 1 by omega]
   simpa using h2

def endQ (P : Program) (rs : List ResultVar) (K : Value → World → Prop) : Exit → Env → World → Prop
 | .normal, E, w => qfe P rs E w fun vs => K (qdA vs) w
 | .ret, E, w => qfe P rs E w fun vs => K (qdA vs) w
 | _, _, _ => False

def vcF (P : Program) (fn : Func) (an : Ann) (args : List Value) (K : Value → World → Prop) (w : World) : Prop :=
 match fn.body with
 | some c => bif Nat.ble args.length fn.ntmps then vc P fn.ntmps an c (endQ P fn.results.toList K) (qem 0 args) w else False
 | none => False

theorem qcp {P : Program} (hm : P.follows .mixedOrders = true) {f : FuncId} {fn : Func} (hf : P.funcs[f]? = some fn) (hp : qe3 P f = true) {an : Ann} {args : List Value} {K : Value → World → Prop} {w : World}
    (h : vcF P fn an args K w) : Cll P f args.toArray w K := by
 refine .mk hp ?_
 unfold vcF at h
 split at h
 ·rename_i c hb
  cases hl : Nat.ble args.length fn.ntmps with
  | false => rw [hl] at h; exact h.elim
  | true =>
   rw [hl] at h
   have hle : args.length ≤ fn.ntmps := Nat.le_of_ble_eq_true hl
   have hS : Sat fn.ntmps { tmps := args.toArray ++ Array.replicate (fn.ntmps - args.toArray.size) undef, defers := [] } (qem 0 args) := by
    refine ⟨rfl, by simp; omega, fun t v hv => ?_⟩
    obtain ⟨_, h2⟩ := qet args 0 t v hv
    simp at h2
    have : t < args.length := (List.getElem?_eq_some_iff.1 h2).1
    show (args.toArray ++ Array.replicate (fn.ntmps - args.toArray.size) undef)[t]? = some v
    rw [Array.getElem?_append_left (by simpa using this)]
    simpa using h2
   refine calls_of_wp hf hb (Code.wp_mono ?_ (qgj hm c an _ _ _ w hS h))
   rintro e a w' ⟨hok, ⟨E, hSE, hQ⟩, _⟩
   have fin : qfe P fn.results.toList E w' (fun vs => K (qdA vs) w') → a.defers = [] ∧ ∃ v, (results fn a.tmps).run P w' = .ok v w' ∧ ∃ u, Ending.returned v = .returned u ∧ K u w' := by
    intro hres
    obtain ⟨vs, hk, hr⟩ := qdk hSE _ _ hres
    refine ⟨hSE.defers, qdA vs, ?_, _, rfl, hk⟩
    unfold results
    rw [Array.mapM_eq_mapM_toList, Sem.run_bind, Sem.run_map]
    refine Eq.trans (congrArg (fun r => (Result.andThen (Result.andThen r _) _)) hr) ?_
    simp only [Result.andThen]
    cases vs with
    | nil => simp [pure, Sem.run, qdA]
    | cons v rest => cases rest <;> simp [pure, Sem.run, qdA]
   cases e with
   | normal => exact fin hQ
   | ret => exact fin hQ
   | exit j => exact hQ.elim
   | _ => exact hok.elim
 ·exact h.elim

end Go.V
