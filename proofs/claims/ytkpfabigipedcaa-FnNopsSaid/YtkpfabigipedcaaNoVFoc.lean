import Derived.Test.YtkpfabigipedcaaNoVPlc
set_option linter.unusedVariables false
set_option linter.unusedSimpArgs false
namespace Go.V
theorem brc {b : Bool} {X Y X' Y' : Prop} (H : qa5 b X Y) (f : b = true → X → X') (g : b = false → Y → Y') : qa5 b X' Y' :=
 qa8 (fun h => f h ((qcD.1 H).1 h)) fun h => g h ((qcD.1 H).2 h)
theorem qgU {P : Program} (hm : P.follows .mixedOrders = true) {f : FuncId} {fn : Func} (hf : P.funcs[f]? = some fn) (hp : qe3 P f = true) {an : Ann} {args : List Value} {K : Value → World → Prop} {w : World} {V : World → (Value → World → Prop) → Prop}
    (e : vcF P fn an args K w = V w K) (h : V w K) : Cll P f args.toArray w K := qcp hm hf hp (Eq.mpr e h)
theorem qap {α : Type} {x : α} {P : α → Prop} (h : ∀ r, r = x → P r) : ∃ r, r = x ∧ P r := ⟨x, rfl, h x rfl⟩
section
variable {T : Nat} {EF : El D.Frame} {EI : El Int} {w w' : World} {B c : Nat} {F G : Nat → Prop} {A : Option Addr} {xs : List D.Warp} {i : Nat} {R : Array Value}
end
abbrev bx (g : Nat) : Addr := ⟨g, 0, none⟩
abbrev ldS (w : World) (a : Addr) (k : Option Addr → Nat → Nat → Prop) : Prop := ∃ (A : Option Addr) (n : Nat) (c : Nat), w.cell? a = some (.slice A n c) ∧ k A n c
abbrev ldI (w : World) (a : Addr) (k : Int → Prop) : Prop := ∃ n : Int, w.cell? a = some (.int .i64 n) ∧ k n
abbrev ldSM (M : Nat → Prop) (w : World) (b : Addr) (j : Nat) (k : Option Addr → Nat → Nat → Prop) : Prop := ∃ (A : Option Addr) (n : Nat) (c : Nat), (¬ M b.block ∧ w.cell? (b.add j) = some (.slice A n c)) ∧ k A n c
abbrev ldIM (M : Nat → Prop) (w : World) (b : Addr) (j : Nat) (k : Int → Prop) : Prop := ∃ n : Int, (¬ M b.block ∧ w.cell? (b.add j) = some (.int .i64 n)) ∧ k n
abbrev idx (i : Int) (n : Nat) (A : Option Addr) (k : Addr → Prop) : Prop := (0 : Int) ≤ i ∧ i < ((n : Nat) : Int) ∧ ∃ a : Addr, A = some a ∧ k a
abbrev OA := Option Addr
abbrev VK := Value → World → Prop
abbrev iv (x : Int) : Value := .int .i64 x
abbrev sv (A : Option Addr) (n c : Nat) : Value := .slice A n c
theorem stB {a : Addr} {g T : Nat} {vs : List Value} {w : World} {cs : Array Value} {k : World → Prop} (hB : Blk w g T cs) (o : Nat) (cs' : Array Value) (h : ∀ w1, Blk w1 g T cs' → ChgB g w w1 → k w1)
    (ha : a = ⟨g, o, none⟩ := by rfl) (hc : splice cs o vs = cs' := by rfl) (hl : o + vs.length ≤ cs.size := by exact Nat.le_of_ble_eq_true rfl) (ho : vs.all oneCell = true := by rfl) : qag a vs 0 w k := qcb hB ha hc hl ho h
theorem qgn {w : World} {T : Nat} {vs : List Value} {cs : Array Value} {k : Nat → World → Prop} (cs' : Array Value) (h : ∀ g w2, w.heap.size ≤ g → Blk w2 g T cs' → Ext w w2 → k g w2)
    (hc : splice cs 0 vs = cs' := by rfl) (hl : 0 + vs.length ≤ cs.size := by exact Nat.le_of_ble_eq_true rfl) (ho : vs.all oneCell = true := by rfl) : newK w (.cells cs T) (fun g w1 => qag (bx g) vs 0 w1 (fun w2 => k g w2)) :=
 qbE fun g w1 hg hb he => qcb hb rfl hc hl ho fun w2 hb2 hch => h g w2 hg hb2 (echg he hch hg)
theorem appO {P : Program} {α : Type} [Inhabited α] {E : El α} {t1 ty : TypeId} (T : SlT P E t1) {w0 w : World} {c n2 n : Nat} {A : Option Addr} {xs : List α} {A2 : Option Addr} {c2 : Nat} {ys : List α}
    (hO : Own E w w0.heap.size A c xs) (hR : Row E w A2 ys) (hB : w0.heap.size ≤ w.heap.size) (hl : xs.length + ys.length ≤ 17179869184) {k : Option Addr → Nat → Nat → World → Prop}
    (h : ∀ A' c' w', Own E w' w0.heap.size A' c' (xs ++ ys) → qeg A A' w w' → k A' (xs ++ ys).length c' w') (hn : n = xs.length := by first | rfl | omega | (simp; done) | (simp; omega)) (hn2 : n2 = ys.length := by first | rfl | omega | (simp; done) | (simp; omega)) :
    Run P (Builtin.append_ #[t1, t1] ty #[.slice A n c, .slice A2 n2 c2]) w fun v w' => ∃ (A' : Option Addr) (n' c' : Nat), v = .slice A' n' c' ∧ k A' n' c' w' := appOwn T T.under hO hR hB hn hn2 hl h
theorem begK {P : Program} (hm : P.follows .mixedOrders = true) (fn : Func) {f : FuncId} {args : List Value} {K : Value → World → Prop} {w : World} (an : Ann) (V : World → (Value → World → Prop) → Prop) (h : V w K)
    (hf : P.funcs[f]? = some fn := by kernel_rfl) (hp : qe3 P f = true := by kernel_rfl) (e : vcF P fn an args K w = V w K := by kernel_rfl) : Cll P f args.toArray w K := qcp hm hf hp (Eq.mpr e h)
theorem noM {a : Prop} (h : a) : ¬ False ∧ a := ⟨fun h => h, h⟩
theorem Blk.a {w : World} {g T : Nat} {cs : Array Value} (h : Blk w g T cs) (j : Nat) {v : Value} {a : Addr} (ha : a = ⟨g, j, none⟩ := by rfl) (hj : cs[j]? = some v := by rfl) : w.cell? a = some v := h.at j ha hj
abbrev bC (A : OA) (a : Nat) (B : OA) (b : Nat) (C : OA) (c : Nat) (x : D.Block) : Array Value := #[sv A x.Code.length a, sv B x.Warps.length b, sv C x.Memory.length c, iv x.Waiting, iv x.Phase]
abbrev wC (A : OA) (a : Nat) (B : OA) (b : Nat) (x : D.Warp) : Array Value := #[iv x.Number, sv A x.Frames.length a, sv B x.Regs.length b]
abbrev iC (x : D.Ins) : Array Value := #[iv x.Op, iv x.A, iv x.B, iv x.C]
theorem Own.stA {α : Type} [Inhabited α] {E : El α} {w : World} {B c : Nat} {A : Option Addr} {a : Addr} {xs : List α} (h : Own E w B A c xs) (ha : A = some a) {i : Int} (h0 : 0 ≤ i) (h1 : i < ((xs.length : Nat) : Int)) (f : Nat) (y : α) {vs : List Value} {k : World → Prop}
    (hk : ∀ w1, Own E w1 B A c (xs.set i.toNat y) → ChgB a.block w w1 → B ≤ a.block → k w1) (hy : E.enc y = (E.enc (rd xs i)).take f ++ vs ++ (E.enc (rd xs i)).drop (f + vs.length) := by rfl) (hf : f + vs.length ≤ E.sz := by exact Nat.le_of_ble_eq_true rfl) (ho : vs.all oneCell = true := by rfl) :
    qag ((a.add (i.toNat * E.sz)).add f) vs 0 w k := h.storeAt ha h0 h1 f vs y hy hf ho hk
theorem aN {α β : Type} {E : El α} {E' : El β} {w w' : World} {B c c' : Nat} {A A' : Option Addr} {xs : List α} {ys : List β} (h : Own E w B A c xs) (h' : Own E' w' w.heap.size A' c' ys) : qc0 A A' := Own.qbS h h' (Nat.le_refl _)
end Go.V
