import Derived.Test.YtkpfabigipedcaaGreatBaVPlc
set_option linter.unusedVariables false
set_option linter.unusedSimpArgs false
namespace Go.V
theorem brc {b : Bool} {X Y X' Y' : Prop} (H : qa1 b X Y) (f : b = true → X → X') (g : b = false → Y → Y') : qa1 b X' Y' :=
 qa3 (fun h => f h ((qfK.1 H).1 h)) fun h => g h ((qfK.1 H).2 h)
theorem qnS {P : Program} (hm : P.follows .mixedOrders = true) {f : FuncId} {fn : Func} (hf : P.funcs[f]? = some fn) (hp : qj5 P f = true) {an : Ann} {args : List Value} {K : Value → World → Prop} {w : World} {V : World → (Value → World → Prop) → Prop}
    (e : vcF P fn an args K w = V w K) (h : V w K) : Cll P f args.toArray w K := qdG hm hf hp (Eq.mpr e h)
theorem qaf {α : Type} {x : α} {P : α → Prop} (h : ∀ r, r = x → P r) : ∃ r, r = x ∧ P r := ⟨x, rfl, h x rfl⟩
structure qeK (T : Nat) (EF : El D.Frame) (EI : El Int) (w : World) (B : Nat) (G : Nat → Prop) (A : Option Addr) (c : Nat) (xs : List D.Warp) (i : Nat) (R : Array Value) : Prop where
 ex : ∃ (hs : List HW) (g o : Nat), hs.map HW.w = xs ∧ A = some ⟨g, o, none⟩ ∧ B ≤ g ∧ i < hs.length ∧ hs.length ≤ c ∧ o + c * 3 ≤ R.size ∧ (∀ j x, j ≠ i → hs[j]? = some x → ∀ k v, ((elH T).enc x)[k]? = some v → R[o + j * 3 + k]? = some v) ∧
  (∀ j x, j ≠ i → hs[j]? = some x → Own EF w B x.fa x.fc x.w.Frames ∧ Own EI w B x.ra x.rc x.w.Regs ∧ ∀ k, InH x k → G k) ∧ (∀ j k x y, j ≠ i → k ≠ i → j ≠ k → hs[j]? = some x → hs[k]? = some y → Dis (InH x) (InH y))
 low : ∀ k, G k → B ≤ k
 typ : ∀ k, G k → ∃ t cs, Blk w k t cs ∧ (t = EF.tid ∨ t = EI.tid)
def MovW (w : World) (P Q : Nat → Prop) : Prop := ∀ k, Q k → P k ∨ w.heap.size ≤ k
section
variable {T : Nat} {EF : El D.Frame} {EI : El Int} {w w' : World} {B c : Nat} {F G : Nat → Prop} {A : Option Addr} {xs : List D.Warp} {i : Nat} {R : Array Value}
theorem OwnW.focus (h : OwnW T EF EI w B F A c xs) {i : Int} (h0 : 0 ≤ i) (h1 : i < ((xs.length : Nat) : Int)) (hTF : EF.tid ≠ T) (hTI : EI.tid ≠ T) (hFI : EF.tid ≠ EI.tid) :
    ∃ (g o o0 : Nat) (fa : Option Addr) (fc : Nat) (ra : Option Addr) (rc : Nat) (R : Array Value) (G : Nat → Prop), A = some ⟨g, o0, none⟩ ∧ (⟨g, o0, none⟩ : Addr).add (i.toNat * 3) = ⟨g, o, none⟩ ∧ o = o0 + i.toNat * 3 ∧
     Plc w g o T R #[.int .i64 (rd xs i).Number, .slice fa (rd xs i).Frames.length fc, .slice ra (rd xs i).Regs.length rc] ∧ Own EF w B fa fc (rd xs i).Frames ∧ Own EI w B ra rc (rd xs i).Regs ∧ qeK T EF EI w B G A c xs i.toNat R ∧
     (∀ k, F k ↔ (G k ∨ InB fa k ∨ InB ra k)) ∧ Dis (InW none G) (InB fa) ∧ Dis (InW none G) (InB ra) ∧ ¬ InW none G g ∧ B ≤ g := by
 obtain ⟨hs, rfl, h2, h3, h4⟩ := h.ex
 rw [List.length_map] at h1
 rw [qn6 HW.w h0 h1]
 have hil : i.toNat < hs.length := by omega
 have hget : hs[i.toNat] = rd hs i := by simp [rd, List.getD_eq_getElem?_getD, hil]
 have hge : hs[i.toNat]? = some (rd hs i) := by rw [List.getElem?_eq_getElem hil, hget]
 obtain ⟨k1, k2, k3⟩ := h3 _ (qnK h0 h1)
 have hA := h2
 cases h2 with
 | nil => simp at hil
 | @blk g o c xs cs hB hb hc hz hx =>
  have hz : o + c * 3 ≤ cs.size := hz
  have hcell : ∀ k v, ((elH T).enc (rd hs i))[k]? = some v → cs[o + i.toNat * 3 + k]? = some v := hx i.toNat _ hge
  have hsp : splice cs (o + i.toNat * 3) ((elH T).enc (rd hs i)) = cs := by
   apply Array.ext_getElem?
   intro j
   rw [qdr]
   split
   ·rename_i hj
    have hl : ((elH T).enc (rd hs i)).length = 3 := rfl
    have hlt : j - (o + i.toNat * 3) < ((elH T).enc (rd hs i)).length := by omega
    have := hcell (j - (o + i.toNat * 3)) _ (List.getElem?_eq_getElem hlt)
    rw [show o + i.toNat * 3 + (j - (o + i.toNat * 3)) = j by omega] at this
    rw [this, List.getElem?_eq_getElem hlt]
   ·rfl
  have hmem : ∀ (j : Nat) (x : HW), hs[j]? = some x → x ∈ hs := fun j x hj => List.mem_of_getElem? hj
  have hdis : ∀ (j k : Nat) (x y : HW), j ≠ k → hs[j]? = some x → hs[k]? = some y → Dis (InH x) (InH y) := by
   intro j k x y hne hj hk
   rw [List.pairwise_iff_getElem] at h4
   obtain ⟨hjl, rfl⟩ := List.getElem?_eq_some_iff.1 hj
   obtain ⟨hkl, rfl⟩ := List.getElem?_eq_some_iff.1 hk
   rcases Nat.lt_or_gt_of_ne hne with hlt | hlt
   ·exact h4 _ _ hjl hkl hlt
   ·exact (h4 _ _ hkl hjl hlt).symm
  refine ⟨g, o + i.toNat * 3, o, (rd hs i).fa, (rd hs i).fc, (rd hs i).ra, (rd hs i).rc, cs, fun k => F k ∧ ¬ InB (rd hs i).fa k ∧ ¬ InB (rd hs i).ra k, rfl, qcY _ _ _, rfl, ⟨?_, ?_⟩, k1, k2, ⟨⟨hs, g, o, rfl, rfl, hB, hil, hc, hz, fun j x _ hj k v hv => hx j x hj k v hv, fun j x hne hj => ?_, fun j k x y _ _ hne hj hk => hdis j k x y hne hj hk⟩, fun k hk => h.low k hk.1, fun k hk => h.typ k hk.1⟩, fun k => ?_, ?_, ?_, ?_, hB⟩
  ·show Blk w g T (splice cs _ ((elH T).enc (rd hs i)))
   rw [hsp]; exact hb
  ·have : (o + i.toNat * 3) + 3 ≤ o + c * 3 := by have := Nat.mul_le_mul_right 3 (show i.toNat + 1 ≤ c by omega); omega
   show o + i.toNat * 3 + 3 ≤ cs.size
   omega
  ·obtain ⟨m1, m2, m3⟩ := h3 x (hmem j x hj)
   have hd := hdis j i.toNat x _ hne hj hge
   exact ⟨m1, m2, fun k hk => ⟨m3 k hk, fun hf => hd k hk (.inl hf), fun hr => hd k hk (.inr hr)⟩⟩
  ·constructor
   ·intro hk
    by_cases hf : InB (rd hs i).fa k
    ·exact .inr (.inl hf)
    by_cases hr : InB (rd hs i).ra k
    ·exact .inr (.inr hr)
    exact .inl ⟨hk, hf, hr⟩
   ·rintro (hk | hk | hk)
    ·exact hk.1
    ·exact k3 k (.inl hk)
    ·exact k3 k (.inr hk)
  ·intro k hk hf
   exact hk.elim (fun h => h.none) fun h => h.2.1 hf
  ·intro k hk hf
   exact hk.elim (fun h => h.none) fun h => h.2.2 hf
  ·intro hk
   refine hk.elim (fun h => h.none) fun hk => ?_
   obtain ⟨t, cs', hb', ht⟩ := h.typ g hk.1
   have hb : Blk w g T cs := hb
   rcases ht with rfl | rfl
   ·exact hTF (hb'.uniq hb)
   ·exact hTI (hb'.uniq hb)
theorem qeK.kept (h : qeK T EF EI w B G A c xs i R) {S : Nat → Prop} (e : Chg S w w') (hd : Dis (InW none G) S) : qeK T EF EI w' B G A c xs i R := by
 obtain ⟨hs, g, o, p1, p2, p3, p4, p5, p6, p7, p8, p9⟩ := h.ex
 have hG : ∀ k, G k → ¬ S k := fun k hk => hd k (.inr hk)
 refine ⟨⟨hs, g, o, p1, p2, p3, p4, p5, p6, p7, fun j x hne hj => ?_, p9⟩, h.low, fun k hk => ?_⟩
 ·obtain ⟨m1, m2, m3⟩ := p8 j x hne hj
  exact ⟨m1.chgS e fun k hk => hG k (m3 k (.inl hk)), m2.chgS e fun k hk => hG k (m3 k (.inr hk)), m3⟩
 ·obtain ⟨t, cs, hb, ht⟩ := h.typ k hk
  exact ⟨t, cs, hb.chgS e (hG k hk), ht⟩
theorem qeK.ext (h : qeK T EF EI w B G A c xs i R) (e : Ext w w') : qeK T EF EI w' B G A c xs i R := by
 have : Chg (fun _ => False) w w' := ⟨e.os, e.tape, e.output, e.size, fun k hk _ => e.block k hk⟩
 exact h.kept this fun _ _ h => h
theorem qeK.chg (h : qeK T EF EI w B G A c xs i R) {k : Nat} (e : ChgB k w w') (hd : ¬ InW none G k) : qeK T EF EI w' B G A c xs i R := h.kept e.qmS fun g hg hk => hd (hk ▸ hg)
theorem qeK.old (h : qeK T EF EI w B G A c xs i R) : ∀ g, InW none G g → g < w.heap.size := fun g hg => hg.elim (fun h => h.none.elim) fun hg => let ⟨_, _, hb, _⟩ := h.typ g hg; hb.lt
theorem qeK.qeP (h : qeK T EF EI w B G A c xs i R) {g : Nat} (hg : w.heap.size ≤ g) : ¬ InW none G g := fun h1 => by have := h.old g h1; omega
theorem qeK.qgr (h : qeK T EF EI w B G A c xs i R) {α : Type} {E : El α} {X : Option Addr} {c' B' : Nat} {ys : List α} (k : Own E w' B' X c' ys) (hB : w.heap.size ≤ B') : Dis (InW none G) (InB X) :=
 fun g h1 h2 => by have := h.old g h1; have := k.low g h2; omega
theorem qeK.qkJ (h : qeK T EF EI w B G A c xs i R) {X X' : Option Addr} (hd : Dis (InW none G) (InB X)) (m : Mov w X X') : Dis (InW none G) (InB X') := by
 rintro g hg ⟨a', ha', rfl⟩
 rcases m a' ha' with ⟨a, ha, hb⟩ | hge
 ·exact hd _ hg ⟨a, ha, hb⟩
 ·have := h.old _ hg; omega
theorem qeK.back (h : qeK T EF EI w B G A c xs i R) {g o o0 : Nat} (hA : A = some ⟨g, o0, none⟩) (ho : o = o0 + i * 3) {n : Int} {fa ra : Option Addr} {l1 l2 fc rc B1 B2 : Nat} {fr : List D.Frame} {rg : List Int}
    (hp : Plc w g o T R #[.int .i64 n, .slice fa l1 fc, .slice ra l2 rc]) (hf : Own EF w B1 fa fc fr) (hr : Own EI w B2 ra rc rg) (e1 : l1 = fr.length) (e2 : l2 = rg.length) (b1 : ∀ k, InB fa k → B ≤ k) (b2 : ∀ k, InB ra k → B ≤ k)
    (hTF : EF.tid ≠ T) (hTI : EI.tid ≠ T) (hFI : EF.tid ≠ EI.tid) (d1 : Dis (InW none G) (InB fa)) (d2 : Dis (InW none G) (InB ra)) :
    OwnW T EF EI w B (fun k => G k ∨ InB fa k ∨ InB ra k) A c (xs.set i ⟨n, fr, rg⟩) := by
 subst e1 e2
 obtain ⟨hs, g', o', rfl, p2, p3, p4, p5, p6, p7, p8, p9⟩ := h.ex
 rw [hA] at p2
 injection p2 with p2
 injection p2 with q1 q2 _
 subst q1 q2
 subst ho
 have hlt : ∀ j, j < c → o0 + j * 3 + 3 ≤ R.size := fun j hj => by have := Nat.mul_le_mul_right 3 (show j + 1 ≤ c by omega); omega
 refine ⟨⟨hs.set i ⟨⟨n, fr, rg⟩, fa, fc, ra, rc⟩, by rw [List.map_set], ?_, fun x hx => ?_, ?_⟩, ?_, ?_⟩
 ·rw [hA]
  refine .blk p3 hp.b (by rw [List.length_set]; exact p5) (by rw [qdT]; exact p6) fun j x hj k v hv => ?_
  have hk : k < 3 := by have := (List.getElem?_eq_some_iff.1 hv).1; exact this
  rw [List.getElem?_set] at hj
  split at hj
  ·rename_i e
   subst e
   try rw [if_pos p4] at hj
   cases hj
   have : i * (elH T).sz = i * 3 := rfl
   rw [qdr, this, if_pos ⟨by omega, by show _ < _ + 3; omega, by have := hlt i (by omega); omega⟩]
   rw [show o0 + i * 3 + k - (o0 + i * 3) = k by omega]
   exact hv
  ·rename_i hne
   have hjl := (List.getElem?_eq_some_iff.1 hj).1
   have : j * (elH T).sz = j * 3 := rfl
   rw [qdr, this, if_neg (by
    rintro ⟨a1, a2, _⟩
    have a2 : o0 + j * 3 + k < o0 + i * 3 + 3 := a2
    omega)]
   exact p7 j x (fun e => hne e.symm) hj k v hv
 ·obtain ⟨j, hj, rfl⟩ := List.getElem_of_mem hx
  rw [List.getElem_set]
  rw [List.length_set] at hj
  split
  ·exact ⟨hf.lift b1, hr.lift b2, fun k hk => .inr hk⟩
  ·rename_i hne
   obtain ⟨m1, m2, m3⟩ := p8 j _ (fun e => hne e.symm) (List.getElem?_eq_getElem hj)
   exact ⟨m1, m2, fun k hk => .inl (m3 k hk)⟩
 ·rw [List.pairwise_iff_getElem]
  intro a b ha hb hab
  rw [List.length_set] at ha hb
  rw [List.getElem_set, List.getElem_set]
  have up : ∀ (j : Nat) (hj : j < hs.length), j ≠ i → Dis (InH hs[j]) (InH (⟨⟨n, fr, rg⟩, fa, fc, ra, rc⟩ : HW)) := by
   intro j hj hne k hk hk'
   have hG := (p8 j _ hne (List.getElem?_eq_getElem hj)).2.2 k hk
   rcases hk' with hk' | hk'
   ·exact d1 k (.inr hG) hk'
   ·exact d2 k (.inr hG) hk'
  split
  ·split
   ·omega
   ·rename_i e1 e2; exact (up b hb (fun e => e2 e.symm)).symm
  ·split
   ·rename_i e1 e2; exact up a ha (fun e => e1 e.symm)
   ·rename_i e1 e2; exact p9 a b _ _ (fun e => e1 e.symm) (fun e => e2 e.symm) (by omega) (List.getElem?_eq_getElem ha) (List.getElem?_eq_getElem hb)
 ·rintro k (hk | hk | hk)
  ·exact h.low k hk
  ·exact b1 k hk
  ·exact b2 k hk
 ·rintro k (hk | hk | hk)
  ·exact h.typ k hk
  ·obtain ⟨cs, hb⟩ := hf.blkA k hk; exact ⟨_, cs, hb, .inl rfl⟩
  ·obtain ⟨cs, hb⟩ := hr.blkA k hk; exact ⟨_, cs, hb, .inr rfl⟩
theorem OwnW.qlp {F' : Nat → Prop} (h : OwnW T EF EI w B F' A c xs) (e : ∀ k, F k ↔ F' k) : OwnW T EF EI w B F A c xs := by
 have : F' = F := funext fun k => propext (e k).symm
 rwa [this] at h
theorem qn5 {α : Type} [Inhabited α] (xs : List α) (i : Int) : xs.set i.toNat (rd xs i) = xs := by
 apply List.ext_getElem?
 intro j
 rw [List.getElem?_set]
 split
 ·rename_i e
  subst e
  unfold rd
  rw [List.getD_eq_getElem?_getD]
  by_cases hl : i.toNat < xs.length
  ·simp [hl]
  ·simp [hl]
 ·rfl
theorem OwnW.lift {B' : Nat} (h : OwnW T EF EI w B' F A c xs) (hl : ∀ g, InW A F g → B ≤ g) : OwnW T EF EI w B F A c xs := by
 obtain ⟨hs, h1, h2, h3, h4⟩ := h.ex
 exact ⟨⟨hs, h1, h2.lift fun g hg => hl g (.inl hg), fun x hx => ⟨(h3 x hx).1.lift fun g hg => hl g (.inr ((h3 x hx).2.2 g (.inl hg))), (h3 x hx).2.1.lift fun g hg => hl g (.inr ((h3 x hx).2.2 g (.inr hg))), (h3 x hx).2.2⟩, h4⟩, fun g hg => hl g (.inr hg), h.typ⟩
theorem qef {X : Option Addr} {fa ra : Option Addr} (hA : Dis (InB A) (InB X)) (h1 : Dis (InW none G) (InB X)) (h2 : qd4 fa X) (h3 : qd4 ra X) : Dis (InW A (fun k => G k ∨ InB fa k ∨ InB ra k)) (InB X) := by
 rintro k (hk | hk | hk | hk) hx
 ·exact hA k hk hx
 ·exact h1 k (.inr hk) hx
 ·exact h2.inb k hk hx
 ·exact h3.inb k hk hx
theorem qdu {P Q X : Nat → Prop} (h : Dis P X) (hs : ∀ k, Q k → P k) : Dis Q X := fun k hq hx => h k (hs k hq) hx
theorem qij {X Y : Option Addr} (h : Dis (InB X) (InB Y)) : qd4 X Y := fun a a' ha ha' e => h _ ⟨a, ha, rfl⟩ ⟨a', ha', e.symm⟩
theorem MovW.low {P Q : Nat → Prop} {b : Nat} (m : MovW w P Q) (h : ∀ k, P k → b ≤ k) (hs : b ≤ w.heap.size) : ∀ k, Q k → b ≤ k := fun k hk => (m k hk).elim (h k) fun h => Nat.le_trans hs h
theorem MovW.dis {P Q X : Nat → Prop} (m : MovW w P Q) (h : Dis P X) (hx : ∀ k, X k → k < w.heap.size) : Dis Q X := fun k hq hk => (m k hq).elim (fun hp => h k hp hk) fun h => Nat.not_le.2 (hx k hk) h
theorem MovW.trans {P Q S : Nat → Prop} {w1 : World} (h : MovW w P Q) (k : MovW w1 Q S) (hs : w.heap.size ≤ w1.heap.size) : MovW w P S := fun j hj => (k j hj).elim (h j) fun h => .inr (Nat.le_trans hs h)
theorem MovW.refl (w : World) (P : Nat → Prop) : MovW w P P := fun _ h => .inl h
theorem MovW.sub {P Q S : Nat → Prop} (h : MovW w P Q) (hs : ∀ k, S k → Q k) : MovW w P S := fun k hk => h k (hs k hk)
theorem MovW.mov {P : Nat → Prop} {w1 : World} {X X' : Option Addr} (h : MovW w P (InB X)) (m : Mov w1 X X') (hs : w.heap.size ≤ w1.heap.size) : MovW w P (InB X') := by
 rintro k ⟨a', ha', rfl⟩
 rcases m a' ha' with ⟨a, ha, hb⟩ | hge
 ·rw [← hb]; exact h _ ⟨a, ha, rfl⟩
 ·exact .inr (by omega)
theorem MovW.back {P : Nat → Prop} {fa ra : Option Addr} (hA : MovW w P (InB A)) (h1 : MovW w P (InW none G)) (h2 : MovW w P (InB fa)) (h3 : MovW w P (InB ra)) : MovW w P (InW A fun k => G k ∨ InB fa k ∨ InB ra k) := by
 rintro k (hk | hk | hk | hk)
 ·exact hA k hk
 ·exact h1 k (.inr hk)
 ·exact h2 k hk
 ·exact h3 k hk
theorem OwnW.unset {i : Int} (h : OwnW T EF EI w B F A c (xs.set i.toNat ⟨(rd xs i).Number, (rd xs i).Frames, (rd xs i).Regs⟩)) : OwnW T EF EI w B F A c xs := by
 rwa [show (⟨(rd xs i).Number, (rd xs i).Frames, (rd xs i).Regs⟩ : D.Warp) = rd xs i from rfl, qn5] at h
theorem qm0 {g o k : Nat} (hA : A = some ⟨g, o, none⟩) (h : InB A k) : k = g := by
 obtain ⟨a, ha, rfl⟩ := h
 rw [hA] at ha; cases ha; rfl
theorem qhS {g o : Nat} {X : Option Addr} (hA : A = some ⟨g, o, none⟩) (h : Apart X g) : Dis (InB A) (InB X) := fun k hk hx => h.inb (qm0 hA hk ▸ hx)
theorem qea {fa ra : Option Addr} (hF : ∀ k, F k ↔ (G k ∨ InB fa k ∨ InB ra k)) : ∀ k, InW A F k → InW A (fun k => G k ∨ InB fa k ∨ InB ra k) k := fun k h => h.elim .inl fun h => .inr ((hF k).1 h)
theorem qfZ {fa ra : Option Addr} (hF : ∀ k, F k ↔ (G k ∨ InB fa k ∨ InB ra k)) : ∀ k, InW none G k → InW A F k := fun k h => h.elim (fun h => h.none.elim) fun h => .inr ((hF k).2 (.inl h))
theorem qnR {fa ra : Option Addr} (hF : ∀ k, F k ↔ (G k ∨ InB fa k ∨ InB ra k)) : ∀ k, InB fa k → InW A F k := fun k h => .inr ((hF k).2 (.inr (.inl h)))
theorem qkl {fa ra : Option Addr} (hF : ∀ k, F k ↔ (G k ∨ InB fa k ∨ InB ra k)) : ∀ k, InB ra k → InW A F k := fun k h => .inr ((hF k).2 (.inr (.inr h)))
theorem qnT {g o : Nat} (hA : A = some ⟨g, o, none⟩) : ∀ k, k = g → InW A F k := fun k h => .inl ⟨_, hA, h.symm⟩
end
abbrev bx (g : Nat) : Addr := ⟨g, 0, none⟩
abbrev ldS (w : World) (a : Addr) (k : Option Addr → Nat → Nat → Prop) : Prop := ∃ (A : Option Addr) (n : Nat) (c : Nat), w.cell? a = some (.slice A n c) ∧ k A n c
abbrev ldI (w : World) (a : Addr) (k : Int → Prop) : Prop := ∃ n : Int, w.cell? a = some (.int .i64 n) ∧ k n
abbrev ldSM (M : Nat → Prop) (w : World) (b : Addr) (j : Nat) (k : Option Addr → Nat → Nat → Prop) : Prop := ∃ (A : Option Addr) (n : Nat) (c : Nat), (¬ M b.block ∧ w.cell? (b.add j) = some (.slice A n c)) ∧ k A n c
abbrev ldIM (M : Nat → Prop) (w : World) (b : Addr) (j : Nat) (k : Int → Prop) : Prop := ∃ n : Int, (¬ M b.block ∧ w.cell? (b.add j) = some (.int .i64 n)) ∧ k n
abbrev idx (i : Int) (n : Nat) (A : Option Addr) (k : Addr → Prop) : Prop := (0 : Int) ≤ i ∧ i < ((n : Nat) : Int) ∧ ∃ a : Addr, A = some a ∧ k a
abbrev OA := Option Addr
abbrev VK := Value → World → Prop
abbrev iv (x : Int) : Value := .int .i64 x
abbrev sv (A : Option Addr) (n c : Nat) : Value := .slice A n c
theorem stB {a : Addr} {g T : Nat} {vs : List Value} {w : World} {cs : Array Value} {k : World → Prop} (hB : Blk w g T cs) (o : Nat) (cs' : Array Value) (h : ∀ w1, Blk w1 g T cs' → ChgB g w w1 → k w1)
    (ha : a = ⟨g, o, none⟩ := by rfl) (hc : splice cs o vs = cs' := by rfl) (hl : o + vs.length ≤ cs.size := by exact Nat.le_of_ble_eq_true rfl) (ho : vs.all oneCell = true := by rfl) : qae a vs 0 w k := qd9 hB ha hc hl ho h
theorem qkc {w : World} {T : Nat} {vs : List Value} {cs : Array Value} {k : Nat → World → Prop} (cs' : Array Value) (h : ∀ g w2, w.heap.size ≤ g → Blk w2 g T cs' → Ext w w2 → k g w2)
    (hc : splice cs 0 vs = cs' := by rfl) (hl : 0 + vs.length ≤ cs.size := by exact Nat.le_of_ble_eq_true rfl) (ho : vs.all oneCell = true := by rfl) : newK w (.cells cs T) (fun g w1 => qae (bx g) vs 0 w1 (fun w2 => k g w2)) :=
 qbx fun g w1 hg hb he => qd9 hb rfl hc hl ho fun w2 hb2 hch => h g w2 hg hb2 (echg he hch hg)
theorem appO {P : Program} {α : Type} [Inhabited α] {E : El α} {t1 ty : TypeId} (T : SlT P E t1) {w0 w : World} {c n2 n : Nat} {A : Option Addr} {xs : List α} {A2 : Option Addr} {c2 : Nat} {ys : List α}
    (hO : Own E w w0.heap.size A c xs) (hR : Row E w A2 ys) (hB : w0.heap.size ≤ w.heap.size) (hl : xs.length + ys.length ≤ 17179869184) {k : Option Addr → Nat → Nat → World → Prop}
    (h : ∀ A' c' w', Own E w' w0.heap.size A' c' (xs ++ ys) → qgC A A' w w' → k A' (xs ++ ys).length c' w') (hn : n = xs.length := by first | rfl | omega | (simp; done) | (simp; omega)) (hn2 : n2 = ys.length := by first | rfl | omega | (simp; done) | (simp; omega)) :
    Run P (Builtin.append_ #[t1, t1] ty #[.slice A n c, .slice A2 n2 c2]) w fun v w' => ∃ (A' : Option Addr) (n' c' : Nat), v = .slice A' n' c' ∧ k A' n' c' w' := appOwn T T.under hO hR hB hn hn2 hl h
theorem begK {P : Program} (hm : P.follows .mixedOrders = true) (fn : Func) {f : FuncId} {args : List Value} {K : Value → World → Prop} {w : World} (an : Ann) (V : World → (Value → World → Prop) → Prop) (h : V w K)
    (hf : P.funcs[f]? = some fn := by kernel_rfl) (hp : qj5 P f = true := by kernel_rfl) (e : vcF P fn an args K w = V w K := by kernel_rfl) : Cll P f args.toArray w K := qdG hm hf hp (Eq.mpr e h)
theorem noM {a : Prop} (h : a) : ¬ False ∧ a := ⟨fun h => h, h⟩
theorem Blk.a {w : World} {g T : Nat} {cs : Array Value} (h : Blk w g T cs) (j : Nat) {v : Value} {a : Addr} (ha : a = ⟨g, j, none⟩ := by rfl) (hj : cs[j]? = some v := by rfl) : w.cell? a = some v := h.at j ha hj
theorem Plc.a {w : World} {g o T : Nat} {R cs : Array Value} (h : Plc w g o T R cs) (j : Nat) {v : Value} {a : Addr} (ha : a = ⟨g, o + j, none⟩ := by rfl) (hj : cs[j]? = some v := by rfl) : w.cell? a = some v := h.at j ha hj
theorem cllA {P : Program} {f : FuncId} {x y : Array Value} {w : World} {K : Value → World → Prop} (h : Cll P f x w K) (e : x = y := by first | (simp only [bC, wC, List.length_set]; done) | (simp; done)) : Cll P f y w K := e ▸ h
abbrev bC (A : OA) (a : Nat) (B : OA) (b : Nat) (C : OA) (c : Nat) (x : D.Block) : Array Value := #[sv A x.Code.length a, sv B x.Warps.length b, sv C x.Memory.length c, iv x.Waiting, iv x.Phase]
abbrev wC (A : OA) (a : Nat) (B : OA) (b : Nat) (x : D.Warp) : Array Value := #[iv x.Number, sv A x.Frames.length a, sv B x.Regs.length b]
abbrev zC : Array Value := #[sv none 0 0, sv none 0 0, sv none 0 0, iv 0, iv 0]
abbrev iC (x : D.Ins) : Array Value := #[iv x.Op, iv x.A, iv x.B, iv x.C]
abbrev vB (A : OA) (a n : Nat) (B : OA) (b m : Nat) (C : OA) (c k : Nat) (p q : Int) : Array Value := #[sv A a n, sv B b m, sv C c k, iv p, iv q]
abbrev ldB (w : World) (d : Addr) (K : OA → Nat → Nat → OA → Nat → Nat → OA → Nat → Nat → Int → Int → Prop) : Prop :=
 ldS w (d.add 0) fun A a n => ldS w (d.add 1) fun B b m => ldS w (d.add 2) fun C c k => ldI w (d.add 3) fun p => ldI w (d.add 4) fun q => K A a n B b m C c k p q
theorem Own.stA {α : Type} [Inhabited α] {E : El α} {w : World} {B c : Nat} {A : Option Addr} {a : Addr} {xs : List α} (h : Own E w B A c xs) (ha : A = some a) {i : Int} (h0 : 0 ≤ i) (h1 : i < ((xs.length : Nat) : Int)) (f : Nat) (y : α) {vs : List Value} {k : World → Prop}
    (hk : ∀ w1, Own E w1 B A c (xs.set i.toNat y) → ChgB a.block w w1 → B ≤ a.block → k w1) (hy : E.enc y = (E.enc (rd xs i)).take f ++ vs ++ (E.enc (rd xs i)).drop (f + vs.length) := by rfl) (hf : f + vs.length ≤ E.sz := by exact Nat.le_of_ble_eq_true rfl) (ho : vs.all oneCell = true := by rfl) :
    qae ((a.add (i.toNat * E.sz)).add f) vs 0 w k := h.storeAt ha h0 h1 f vs y hy hf ho hk
theorem aN {α β : Type} {E : El α} {E' : El β} {w w' : World} {B c c' : Nat} {A A' : Option Addr} {xs : List α} {ys : List β} (h : Own E w B A c xs) (h' : Own E' w' w.heap.size A' c' ys) : qd4 A A' := Own.qdL h h' (Nat.le_refl _)
end Go.V
