import Derived.Test.YtkpfabigipedcaaGreatAcVPlc
set_option linter.unusedVariables false
set_option linter.unusedSimpArgs false
namespace Go.V
theorem brc {b : Bool} {X Y X' Y' : Prop} (H : bcase b X Y) (f : b = true → X → X') (g : b = false → Y → Y') : bcase b X' Y' :=
 bcase_mk (fun h => f h ((bcase_iff.1 H).1 h)) fun h => g h ((bcase_iff.1 H).2 h)
theorem callO {α : Type} {x : α} {P : α → Prop} (h : ∀ r, r = x → P r) : ∃ r, r = x ∧ P r := ⟨x, rfl, h x rfl⟩
structure HoleW (T : Nat) (EF : El D.Frame) (EI : El Int) (w : World) (B : Nat) (G : Nat → Prop) (A : Option Addr) (c : Nat) (xs : List D.Warp) (i : Nat) (R : Array Value) : Prop where
 ex : ∃ (hs : List HW) (g o : Nat), hs.map HW.w = xs ∧ A = some ⟨g, o, none⟩ ∧ B ≤ g ∧ i < hs.length ∧ hs.length ≤ c ∧ o + c * 3 ≤ R.size ∧ (∀ j x, j ≠ i → hs[j]? = some x → ∀ k v, ((elH T).enc x)[k]? = some v → R[o + j * 3 + k]? = some v) ∧
  (∀ j x, j ≠ i → hs[j]? = some x → Own EF w B x.fa x.fc x.w.Frames ∧ Own EI w B x.ra x.rc x.w.Regs ∧ ∀ k, InH x k → G k) ∧ (∀ j k x y, j ≠ i → k ≠ i → j ≠ k → hs[j]? = some x → hs[k]? = some y → Dis (InH x) (InH y))
 low : ∀ k, G k → B ≤ k
 typ : ∀ k, G k → ∃ t cs, Blk w k t cs ∧ (t = EF.tid ∨ t = EI.tid)
def MovW (w : World) (P Q : Nat → Prop) : Prop := ∀ k, Q k → P k ∨ w.heap.size ≤ k
section
variable {T : Nat} {EF : El D.Frame} {EI : El Int} {w w' : World} {B c : Nat} {F G : Nat → Prop} {A : Option Addr} {xs : List D.Warp} {i : Nat} {R : Array Value}
theorem HoleW.kept (h : HoleW T EF EI w B G A c xs i R) {S : Nat → Prop} (e : Chg S w w') (hd : Dis (InW none G) S) : HoleW T EF EI w' B G A c xs i R := by
 obtain ⟨hs, g, o, p1, p2, p3, p4, p5, p6, p7, p8, p9⟩ := h.ex
 have hG : ∀ k, G k → ¬ S k := fun k hk => hd k (.inr hk)
 refine ⟨⟨hs, g, o, p1, p2, p3, p4, p5, p6, p7, fun j x hne hj => ?_, p9⟩, h.low, fun k hk => ?_⟩
 ·obtain ⟨m1, m2, m3⟩ := p8 j x hne hj
  exact ⟨m1.chgS e fun k hk => hG k (m3 k (.inl hk)), m2.chgS e fun k hk => hG k (m3 k (.inr hk)), m3⟩
 ·obtain ⟨t, cs, hb, ht⟩ := h.typ k hk
  exact ⟨t, cs, hb.chgS e (hG k hk), ht⟩
theorem HoleW.ext (h : HoleW T EF EI w B G A c xs i R) (e : Ext w w') : HoleW T EF EI w' B G A c xs i R := by
 have : Chg (fun _ => False) w w' := ⟨e.os, e.tape, e.output, e.size, fun k hk _ => e.block k hk⟩
 exact h.kept this fun _ _ h => h
theorem HoleW.chg (h : HoleW T EF EI w B G A c xs i R) {k : Nat} (e : ChgB k w w') (hd : ¬ InW none G k) : HoleW T EF EI w' B G A c xs i R := h.kept e.toChg fun g hg hk => hd (hk ▸ hg)
theorem HoleW.app (h : HoleW T EF EI w B G A c xs i R) {X X' : Option Addr} (e : AppEv X X' w w') (hd : Dis (InW none G) (InB X)) : HoleW T EF EI w' B G A c xs i R := h.kept e.toChg hd
theorem HoleW.old (h : HoleW T EF EI w B G A c xs i R) : ∀ g, InW none G g → g < w.heap.size := fun g hg => hg.elim (fun h => h.none.elim) fun hg => let ⟨_, _, hb, _⟩ := h.typ g hg; hb.lt
theorem HoleW.dis_newbox (h : HoleW T EF EI w B G A c xs i R) {g : Nat} (hg : w.heap.size ≤ g) : ¬ InW none G g := fun h1 => by have := h.old g h1; omega
theorem HoleW.dis_new (h : HoleW T EF EI w B G A c xs i R) {α : Type} {E : El α} {X : Option Addr} {c' B' : Nat} {ys : List α} (k : Own E w' B' X c' ys) (hB : w.heap.size ≤ B') : Dis (InW none G) (InB X) :=
 fun g h1 h2 => by have := h.old g h1; have := k.low g h2; omega
theorem HoleW.dis_blk (h : HoleW T EF EI w B G A c xs i R) {g t : Nat} {cs : Array Value} (k : Blk w g t cs) (h1 : t ≠ T) (h2 : t ≠ EF.tid) (h3 : t ≠ EI.tid) : ¬ InW none G g := by
 rintro (hg | hg)
 ·exact hg.none
 ·obtain ⟨t', cs', hb, ht⟩ := h.typ g hg
  rcases ht with rfl | rfl
  ·exact h2 (k.uniq hb)
  ·exact h3 (k.uniq hb)
theorem HoleW.dis_type (h : HoleW T EF EI w B G A c xs i R) {α : Type} {E : El α} {X : Option Addr} {c' B' : Nat} {ys : List α} (k : Own E w B' X c' ys) (h1 : E.tid ≠ T) (h2 : E.tid ≠ EF.tid) (h3 : E.tid ≠ EI.tid) : Dis (InW none G) (InB X) := by
 rintro g hg ⟨a, rfl, rfl⟩
 cases k with
 | blk hB hb hc hz hx => exact h.dis_blk hb h1 h2 h3 hg
theorem HoleW.back (h : HoleW T EF EI w B G A c xs i R) {g o o0 : Nat} (hA : A = some ⟨g, o0, none⟩) (ho : o = o0 + i * 3) {n : Int} {fa ra : Option Addr} {l1 l2 fc rc B1 B2 : Nat} {fr : List D.Frame} {rg : List Int}
    (hp : Plc w g o T R #[.int .i64 n, .slice fa l1 fc, .slice ra l2 rc]) (hf : Own EF w B1 fa fc fr) (hr : Own EI w B2 ra rc rg) (e1 : l1 = fr.length) (e2 : l2 = rg.length) (b1 : ∀ k, InB fa k → B ≤ k) (b2 : ∀ k, InB ra k → B ≤ k)
    (hTF : EF.tid ≠ T) (hTI : EI.tid ≠ T) (hFI : EF.tid ≠ EI.tid) (d1 : Dis (InW none G) (InB fa)) (d2 : Dis (InW none G) (InB ra)) :
    OwnW T EF EI w B (fun k => G k ∨ InB fa k ∨ InB ra k) A c (xs.set i ⟨n, fr, rg⟩) := by
 subst e1 e2
 obtain ⟨hs, g', o', rfl, p2, p3, p4, p5, p6, p7, p8, p9⟩ := h.ex
 rw [hA] at p2
 injection p2 with p2
 injection p2 with q1 q2 _
 subst q1 q2
 subst ho
 have hlt : ∀ j, j < c → o0 + j * 3 + 3 ≤ R.size := fun j hj => by have := Nat.mul_le_mul_right 3 (show j + 1 ≤ c by omega); omega
 refine ⟨⟨hs.set i ⟨⟨n, fr, rg⟩, fa, fc, ra, rc⟩, by rw [List.map_set], ?_, fun x hx => ?_, ?_⟩, ?_, ?_⟩
 ·rw [hA]
  refine .blk p3 hp.b (by rw [List.length_set]; exact p5) (by rw [splice_size]; exact p6) fun j x hj k v hv => ?_
  have hk : k < 3 := by have := (List.getElem?_eq_some_iff.1 hv).1; exact this
  rw [List.getElem?_set] at hj
  split at hj
  ·rename_i e
   subst e
   try rw [if_pos p4] at hj
   cases hj
   have : i * (elH T).sz = i * 3 := rfl
   rw [splice_get, this, if_pos ⟨by omega, by show _ < _ + 3; omega, by have := hlt i (by omega); omega⟩]
   rw [show o0 + i * 3 + k - (o0 + i * 3) = k by omega]
   exact hv
  ·rename_i hne
   have hjl := (List.getElem?_eq_some_iff.1 hj).1
   have : j * (elH T).sz = j * 3 := rfl
   rw [splice_get, this, if_neg (by
    rintro ⟨a1, a2, _⟩
    have a2 : o0 + j * 3 + k < o0 + i * 3 + 3 := a2
    omega)]
   exact p7 j x (fun e => hne e.symm) hj k v hv
 ·obtain ⟨j, hj, rfl⟩ := List.getElem_of_mem hx
  rw [List.getElem_set]
  rw [List.length_set] at hj
  split
  ·exact ⟨hf.lift b1, hr.lift b2, fun k hk => .inr hk⟩
  ·rename_i hne
   obtain ⟨m1, m2, m3⟩ := p8 j _ (fun e => hne e.symm) (List.getElem?_eq_getElem hj)
   exact ⟨m1, m2, fun k hk => .inl (m3 k hk)⟩
 ·rw [List.pairwise_iff_getElem]
  intro a b ha hb hab
  rw [List.length_set] at ha hb
  rw [List.getElem_set, List.getElem_set]
  have up : ∀ (j : Nat) (hj : j < hs.length), j ≠ i → Dis (InH hs[j]) (InH (⟨⟨n, fr, rg⟩, fa, fc, ra, rc⟩ : HW)) := by
   intro j hj hne k hk hk'
   have hG := (p8 j _ hne (List.getElem?_eq_getElem hj)).2.2 k hk
   rcases hk' with hk' | hk'
   ·exact d1 k (.inr hG) hk'
   ·exact d2 k (.inr hG) hk'
  split
  ·split
   ·omega
   ·rename_i e1 e2; exact (up b hb (fun e => e2 e.symm)).symm
  ·split
   ·rename_i e1 e2; exact up a ha (fun e => e1 e.symm)
   ·rename_i e1 e2; exact p9 a b _ _ (fun e => e1 e.symm) (fun e => e2 e.symm) (by omega) (List.getElem?_eq_getElem ha) (List.getElem?_eq_getElem hb)
 ·rintro k (hk | hk | hk)
  ·exact h.low k hk
  ·exact b1 k hk
  ·exact b2 k hk
 ·rintro k (hk | hk | hk)
  ·exact h.typ k hk
  ·obtain ⟨cs, hb⟩ := hf.blkA k hk; exact ⟨_, cs, hb, .inl rfl⟩
  ·obtain ⟨cs, hb⟩ := hr.blkA k hk; exact ⟨_, cs, hb, .inr rfl⟩
theorem OwnW.lift {B' : Nat} (h : OwnW T EF EI w B' F A c xs) (hl : ∀ g, InW A F g → B ≤ g) : OwnW T EF EI w B F A c xs := by
 obtain ⟨hs, h1, h2, h3, h4⟩ := h.ex
 exact ⟨⟨hs, h1, h2.lift fun g hg => hl g (.inl hg), fun x hx => ⟨(h3 x hx).1.lift fun g hg => hl g (.inr ((h3 x hx).2.2 g (.inl hg))), (h3 x hx).2.1.lift fun g hg => hl g (.inr ((h3 x hx).2.2 g (.inr hg))), (h3 x hx).2.2⟩, h4⟩, fun g hg => hl g (.inr hg), h.typ⟩
theorem MovW.low {P Q : Nat → Prop} {b : Nat} (m : MovW w P Q) (h : ∀ k, P k → b ≤ k) (hs : b ≤ w.heap.size) : ∀ k, Q k → b ≤ k := fun k hk => (m k hk).elim (h k) fun h => Nat.le_trans hs h
theorem MovW.trans {P Q S : Nat → Prop} {w1 : World} (h : MovW w P Q) (k : MovW w1 Q S) (hs : w.heap.size ≤ w1.heap.size) : MovW w P S := fun j hj => (k j hj).elim (h j) fun h => .inr (Nat.le_trans hs h)
theorem MovW.refl (w : World) (P : Nat → Prop) : MovW w P P := fun _ h => .inl h
theorem MovW.new {P : Nat → Prop} {α : Type} {E : El α} {c' : Nat} {X : Option Addr} {ys : List α} (k : Own E w' w.heap.size X c' ys) : MovW w P (InB X) := fun j hj => .inr (k.low j hj)
theorem MovW.back {P : Nat → Prop} {fa ra : Option Addr} (hA : MovW w P (InB A)) (h1 : MovW w P (InW none G)) (h2 : MovW w P (InB fa)) (h3 : MovW w P (InB ra)) : MovW w P (InW A fun k => G k ∨ InB fa k ∨ InB ra k) := by
 rintro k (hk | hk | hk | hk)
 ·exact hA k hk
 ·exact h1 k (.inr hk)
 ·exact h2 k hk
 ·exact h3 k hk
end
abbrev bx (g : Nat) : Addr := ⟨g, 0, none⟩
abbrev ldS (w : World) (a : Addr) (k : Option Addr → Nat → Nat → Prop) : Prop := ∃ (A : Option Addr) (n : Nat) (c : Nat), w.cell? a = some (.slice A n c) ∧ k A n c
abbrev ldI (w : World) (a : Addr) (k : Int → Prop) : Prop := ∃ n : Int, w.cell? a = some (.int .i64 n) ∧ k n
abbrev ldSM (M : Nat → Prop) (w : World) (b : Addr) (j : Nat) (k : Option Addr → Nat → Nat → Prop) : Prop := ∃ (A : Option Addr) (n : Nat) (c : Nat), (¬ M b.block ∧ w.cell? (b.add j) = some (.slice A n c)) ∧ k A n c
abbrev ldIM (M : Nat → Prop) (w : World) (b : Addr) (j : Nat) (k : Int → Prop) : Prop := ∃ n : Int, (¬ M b.block ∧ w.cell? (b.add j) = some (.int .i64 n)) ∧ k n
abbrev idx (i : Int) (n : Nat) (A : Option Addr) (k : Addr → Prop) : Prop := (0 : Int) ≤ i ∧ i < ((n : Nat) : Int) ∧ ∃ a : Addr, A = some a ∧ k a
abbrev OA := Option Addr
abbrev VK := Value → World → Prop
abbrev iv (x : Int) : Value := .int .i64 x
abbrev sv (A : Option Addr) (n c : Nat) : Value := .slice A n c
theorem stB {a : Addr} {g T : Nat} {vs : List Value} {w : World} {cs : Array Value} {k : World → Prop} (hB : Blk w g T cs) (o : Nat) (cs' : Array Value) (h : ∀ w1, Blk w1 g T cs' → ChgB g w w1 → k w1)
    (ha : a = ⟨g, o, none⟩ := by rfl) (hc : splice cs o vs = cs' := by rfl) (hl : o + vs.length ≤ cs.size := by exact Nat.le_of_ble_eq_true rfl) (ho : vs.all oneCell = true := by rfl) : stCells a vs 0 w k := stBlk hB ha hc hl ho h
theorem newSt {w : World} {T : Nat} {vs : List Value} {cs : Array Value} {k : Nat → World → Prop} (cs' : Array Value) (h : ∀ g w2, w.heap.size ≤ g → Blk w2 g T cs' → Ext w w2 → k g w2)
    (hc : splice cs 0 vs = cs' := by rfl) (hl : 0 + vs.length ≤ cs.size := by exact Nat.le_of_ble_eq_true rfl) (ho : vs.all oneCell = true := by rfl) : newK w (.cells cs T) (fun g w1 => stCells (bx g) vs 0 w1 (fun w2 => k g w2)) :=
 newBlk fun g w1 hg hb he => stBlk hb rfl hc hl ho fun w2 hb2 hch => h g w2 hg hb2 (echg he hch hg)
theorem appO {P : Program} {α : Type} [Inhabited α] {E : El α} {t1 ty : TypeId} (T : SlT P E t1) {w0 w : World} {c n2 n : Nat} {A : Option Addr} {xs : List α} {A2 : Option Addr} {c2 : Nat} {ys : List α}
    (hO : Own E w w0.heap.size A c xs) (hR : Row E w A2 ys) (hB : w0.heap.size ≤ w.heap.size) (hl : xs.length + ys.length ≤ 17179869184) {k : Option Addr → Nat → Nat → World → Prop}
    (h : ∀ A' c' w', Own E w' w0.heap.size A' c' (xs ++ ys) → AppEv A A' w w' → k A' (xs ++ ys).length c' w') (hn : n = xs.length := by first | rfl | omega | (simp; done) | (simp; omega)) (hn2 : n2 = ys.length := by first | rfl | omega | (simp; done) | (simp; omega)) :
    Run P (Builtin.append_ #[t1, t1] ty #[.slice A n c, .slice A2 n2 c2]) w fun v w' => ∃ (A' : Option Addr) (n' c' : Nat), v = .slice A' n' c' ∧ k A' n' c' w' := appOwn T T.under hO hR hB hn hn2 hl h
theorem begK {P : Program} (hm : P.follows .mixedOrders = true) (fn : Func) {f : FuncId} {args : List Value} {K : Value → World → Prop} {w : World} (an : Ann) (V : World → (Value → World → Prop) → Prop) (h : V w K)
    (hf : P.funcs[f]? = some fn := by kernel_rfl) (hp : plainF P f = true := by kernel_rfl) (e : vcF P fn an args K w = V w K := by kernel_rfl) : Cll P f args.toArray w K := vcF_sound hm hf hp (Eq.mpr e h)
theorem noM {a : Prop} (h : a) : ¬ False ∧ a := ⟨fun h => h, h⟩
theorem Blk.a {w : World} {g T : Nat} {cs : Array Value} (h : Blk w g T cs) (j : Nat) {v : Value} {a : Addr} (ha : a = ⟨g, j, none⟩ := by rfl) (hj : cs[j]? = some v := by rfl) : w.cell? a = some v := h.at j ha hj
theorem Plc.a {w : World} {g o T : Nat} {R cs : Array Value} (h : Plc w g o T R cs) (j : Nat) {v : Value} {a : Addr} (ha : a = ⟨g, o + j, none⟩ := by rfl) (hj : cs[j]? = some v := by rfl) : w.cell? a = some v := h.at j ha hj
theorem cllA {P : Program} {f : FuncId} {x y : Array Value} {w : World} {K : Value → World → Prop} (h : Cll P f x w K) (e : x = y := by first | (simp only [bC, wC, List.length_set]; done) | (simp; done)) : Cll P f y w K := e ▸ h
abbrev bC (A : OA) (a : Nat) (B : OA) (b : Nat) (C : OA) (c : Nat) (x : D.Block) : Array Value := #[sv A x.Code.length a, sv B x.Warps.length b, sv C x.Memory.length c, iv x.Waiting, iv x.Phase]
abbrev wC (A : OA) (a : Nat) (B : OA) (b : Nat) (x : D.Warp) : Array Value := #[iv x.Number, sv A x.Frames.length a, sv B x.Regs.length b]
abbrev zC : Array Value := #[sv none 0 0, sv none 0 0, sv none 0 0, iv 0, iv 0]
abbrev iC (x : D.Ins) : Array Value := #[iv x.Op, iv x.A, iv x.B, iv x.C]
abbrev vB (A : OA) (a n : Nat) (B : OA) (b m : Nat) (C : OA) (c k : Nat) (p q : Int) : Array Value := #[sv A a n, sv B b m, sv C c k, iv p, iv q]
abbrev ldB (w : World) (d : Addr) (K : OA → Nat → Nat → OA → Nat → Nat → OA → Nat → Nat → Int → Int → Prop) : Prop :=
 ldS w (d.add 0) fun A a n => ldS w (d.add 1) fun B b m => ldS w (d.add 2) fun C c k => ldI w (d.add 3) fun p => ldI w (d.add 4) fun q => K A a n B b m C c k p q
theorem Own.stA {α : Type} [Inhabited α] {E : El α} {w : World} {B c : Nat} {A : Option Addr} {a : Addr} {xs : List α} (h : Own E w B A c xs) (ha : A = some a) {i : Int} (h0 : 0 ≤ i) (h1 : i < ((xs.length : Nat) : Int)) (f : Nat) (y : α) {vs : List Value} {k : World → Prop}
    (hk : ∀ w1, Own E w1 B A c (xs.set i.toNat y) → ChgB a.block w w1 → B ≤ a.block → k w1) (hy : E.enc y = (E.enc (rd xs i)).take f ++ vs ++ (E.enc (rd xs i)).drop (f + vs.length) := by rfl) (hf : f + vs.length ≤ E.sz := by exact Nat.le_of_ble_eq_true rfl) (ho : vs.all oneCell = true := by rfl) :
    stCells ((a.add (i.toNat * E.sz)).add f) vs 0 w k := h.storeAt ha h0 h1 f vs y hy hf ho hk
theorem aN {α β : Type} {E : El α} {E' : El β} {w w' : World} {B c c' : Nat} {A A' : Option Addr} {xs : List α} {ys : List β} (h : Own E w B A c xs) (h' : Own E' w' w.heap.size A' c' ys) : Apart2 A A' := Own.apart2_new h h' (Nat.le_refl _)
end Go.V
