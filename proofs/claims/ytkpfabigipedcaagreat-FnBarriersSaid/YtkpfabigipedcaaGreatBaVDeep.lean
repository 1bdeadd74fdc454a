import Derived.Test.YtkpfabigipedcaaGreatBaPure
set_option linter.unusedVariables false
set_option linter.unusedSimpArgs false
namespace Go.V
structure HW where
 w : D.Warp
 fa : Option Addr
 fc : Nat
 ra : Option Addr
 rc : Nat
 deriving Inhabited
def elH (T : Nat) : El HW := { sz := 3, tid := T, enc := fun x => [.int .i64 x.w.Number, .slice x.fa x.w.Frames.length x.fc, .slice x.ra x.w.Regs.length x.rc], len := fun _ => rfl, pos := by decide, one := fun _ => rfl }
def RowW (T : Nat) (EF : El D.Frame) (EI : El Int) (w : World) (A : Option Addr) (xs : List D.Warp) : Prop :=
 ∃ hs : List HW, hs.map HW.w = xs ∧ Row (elH T) w A hs ∧ ∀ h ∈ hs, Row EF w h.fa h.w.Frames ∧ h.w.Frames.length ≤ h.fc ∧ Row EI w h.ra h.w.Regs ∧ h.w.Regs.length ≤ h.rc
theorem RowW.ext {T : Nat} {EF : El D.Frame} {EI : El Int} {w w' : World} {A : Option Addr} {xs : List D.Warp} (h : RowW T EF EI w A xs) (e : Ext w w') : RowW T EF EI w' A xs := by
 obtain ⟨hs, h1, h2, h3⟩ := h
 exact ⟨hs, h1, h2.ext e, fun x hx => ⟨(h3 x hx).1.ext e, (h3 x hx).2.1, (h3 x hx).2.2.1.ext e, (h3 x hx).2.2.2⟩⟩
theorem qn6 {α β : Type} [Inhabited α] [Inhabited β] (f : α → β) {xs : List α} {i : Int} (h0 : 0 ≤ i) (h1 : i < ((xs.length : Nat) : Int)) : rd (xs.map f) i = f (rd xs i) := by
 have : i.toNat < xs.length := by omega
 simp [rd, List.getD_eq_getElem?_getD, this]
theorem qnK {α : Type} [Inhabited α] {xs : List α} {i : Int} (h0 : 0 ≤ i) (h1 : i < ((xs.length : Nat) : Int)) : rd xs i ∈ xs := by
 have : i.toNat < xs.length := by omega
 simp [rd, List.getD_eq_getElem?_getD, this]
theorem RowW.at {T : Nat} {EF : El D.Frame} {EI : El Int} {w : World} {A : Option Addr} {xs : List D.Warp} (h : RowW T EF EI w A xs) {i : Int} (h0 : 0 ≤ i) (h1 : i < ((xs.length : Nat) : Int)) :
    ∃ a, A = some a ∧ ∃ (fa : Option Addr) (fc : Nat) (ra : Option Addr) (rc : Nat),
     w.cell? ((a.add (i.toNat * 3)).add 0) = some (.int .i64 (rd xs i).Number) ∧ w.cell? ((a.add (i.toNat * 3)).add 1) = some (.slice fa (rd xs i).Frames.length fc) ∧ w.cell? ((a.add (i.toNat * 3)).add 2) = some (.slice ra (rd xs i).Regs.length rc) ∧
     Row EF w fa (rd xs i).Frames ∧ (rd xs i).Frames.length ≤ fc ∧ Row EI w ra (rd xs i).Regs ∧ (rd xs i).Regs.length ≤ rc := by
 obtain ⟨hs, rfl, h2, h3⟩ := h
 rw [List.length_map] at h1
 rw [qn6 HW.w h0 h1]
 obtain ⟨a, ha, hc⟩ := h2.at h0 h1
 obtain ⟨g1, g2, g3, g4⟩ := h3 _ (qnK h0 h1)
 exact ⟨a, ha, _, _, _, _, hc 0 _ rfl, hc 1 _ rfl, hc 2 _ rfl, g1, g2, g3, g4⟩

def InH (h : HW) (g : Nat) : Prop := InB h.fa g ∨ InB h.ra g
def InW (A : Option Addr) (F : Nat → Prop) (g : Nat) : Prop := InB A g ∨ F g
def Dis (P Q : Nat → Prop) : Prop := ∀ g, P g → ¬ Q g
theorem Dis.symm {P Q : Nat → Prop} (h : Dis P Q) : Dis Q P := fun g hq hp => h g hp hq
structure OwnW (T : Nat) (EF : El D.Frame) (EI : El Int) (w : World) (B : Nat) (F : Nat → Prop) (A : Option Addr) (c : Nat) (xs : List D.Warp) : Prop where
 ex : ∃ hs : List HW, hs.map HW.w = xs ∧ Own (elH T) w B A c hs ∧ (∀ h ∈ hs, Own EF w B h.fa h.fc h.w.Frames ∧ Own EI w B h.ra h.rc h.w.Regs ∧ ∀ g, InH h g → F g) ∧ hs.Pairwise fun h k => Dis (InH h) (InH k)
 low : ∀ g, F g → B ≤ g
 typ : ∀ g, F g → ∃ t cs, Blk w g t cs ∧ (t = EF.tid ∨ t = EI.tid)
section
variable {T : Nat} {EF : El D.Frame} {EI : El Int} {w w' : World} {B c : Nat} {F : Nat → Prop} {A : Option Addr} {xs : List D.Warp}
theorem OwnW.nil : OwnW T EF EI w B (fun _ => False) none 0 [] := ⟨⟨[], rfl, Own.nil, (fun h hh => absurd hh List.not_mem_nil), List.Pairwise.nil⟩, fun _ h => h.elim, fun _ h => h.elim⟩
theorem OwnW.row (h : OwnW T EF EI w B F A c xs) : RowW T EF EI w A xs := by
 obtain ⟨hs, h1, h2, h3, _⟩ := h.ex
 exact ⟨hs, h1, h2.row, fun x hx => ⟨(h3 x hx).1.row, (h3 x hx).1.le, (h3 x hx).2.1.row, (h3 x hx).2.1.le⟩⟩
theorem OwnW.le (h : OwnW T EF EI w B F A c xs) : xs.length ≤ c := by
 obtain ⟨hs, h1, h2, h3, _⟩ := h.ex
 rw [← h1, List.length_map]; exact h2.le
theorem OwnW.ext (h : OwnW T EF EI w B F A c xs) (e : Ext w w') : OwnW T EF EI w' B F A c xs := by
 obtain ⟨hs, h1, h2, h3, h4⟩ := h.ex
 exact ⟨⟨hs, h1, h2.ext e, fun x hx => ⟨(h3 x hx).1.ext e, (h3 x hx).2.1.ext e, (h3 x hx).2.2⟩, h4⟩, h.low, fun g hg => let ⟨t, cs, hb, ht⟩ := h.typ g hg; ⟨t, cs, hb.ext e, ht⟩⟩
theorem OwnW.mono {B' : Nat} (h : OwnW T EF EI w B F A c xs) (hB : B' ≤ B) : OwnW T EF EI w B' F A c xs := by
 obtain ⟨hs, h1, h2, h3, h4⟩ := h.ex
 exact ⟨⟨hs, h1, h2.mono hB, fun x hx => ⟨(h3 x hx).1.mono hB, (h3 x hx).2.1.mono hB, (h3 x hx).2.2⟩, h4⟩, fun g hg => Nat.le_trans hB (h.low g hg), h.typ⟩
theorem OwnW.kept (h : OwnW T EF EI w B F A c xs) {S : Nat → Prop} (e : Chg S w w') (hd : Dis (InW A F) S) : OwnW T EF EI w' B F A c xs := by
 obtain ⟨hs, h1, h2, h3, h4⟩ := h.ex
 have hF : ∀ g, F g → ¬ S g := fun g hg => hd g (.inr hg)
 refine ⟨⟨hs, h1, h2.chgS e fun g hg => hd g (.inl hg), fun x hx => ?_, h4⟩, h.low, fun g hg => ?_⟩
 ·obtain ⟨k1, k2, k3⟩ := h3 x hx
  exact ⟨k1.chgS e fun g hg => hF g (k3 g (.inl hg)), k2.chgS e fun g hg => hF g (k3 g (.inr hg)), k3⟩
 ·obtain ⟨t, cs, hb, ht⟩ := h.typ g hg
  exact ⟨t, cs, hb.chgS e (hF g hg), ht⟩
theorem ChgB.qmS {g : Nat} (e : ChgB g w w') : Chg (fun k => k = g) w w' := ⟨e.os, e.tape, e.output, e.size, fun k hk hn => e.block k hk hn⟩
theorem qgC.qmS {X X' : Option Addr} (e : qgC X X' w w') : Chg (InB X) w w' := ⟨e.os, e.tape, e.output, e.size, fun k hk hn => e.block k hk fun a ha hb => hn ⟨a, ha, hb⟩⟩
theorem OwnW.chg (h : OwnW T EF EI w B F A c xs) {k : Nat} (e : ChgB k w w') (hd : ¬ InW A F k) : OwnW T EF EI w' B F A c xs := h.kept e.qmS fun g hg hk => hd (hk ▸ hg)
theorem OwnW.old (h : OwnW T EF EI w B F A c xs) : ∀ g, InW A F g → g < w.heap.size := by
 rintro g (hg | hg)
 ·obtain ⟨hs, h1, h2, h3, h4⟩ := h.ex
  obtain ⟨a, rfl, rfl⟩ := hg
  cases h2 with
  | blk hB h' hc hz hx => exact h'.lt
 ·obtain ⟨t, cs, hb, ht⟩ := h.typ g hg
  exact hb.lt
theorem OwnW.lowW (h : OwnW T EF EI w B F A c xs) : ∀ g, InW A F g → B ≤ g := by
 rintro g (hg | hg)
 ·obtain ⟨hs, h1, h2, h3, h4⟩ := h.ex
  exact h2.low g hg
 ·exact h.low g hg
theorem Own.oldA {α : Type} {E : El α} {X : Option Addr} {c' B' : Nat} {ys : List α} (h : Own E w B' X c' ys) : ∀ g, InB X g → g < w.heap.size := by
 rintro g ⟨a, rfl, rfl⟩
 cases h with
 | blk hB h hc hz hx => exact h.lt
theorem OwnW.qgr (h : OwnW T EF EI w B F A c xs) {α : Type} {E : El α} {X : Option Addr} {c' B' : Nat} {ys : List α} (k : Own E w' B' X c' ys) (hB : w.heap.size ≤ B') : Dis (InW A F) (InB X) :=
 fun g h1 h2 => by have := h.old g h1; have := k.low g h2; omega
theorem OwnW.qeP (h : OwnW T EF EI w B F A c xs) {g : Nat} (hg : w.heap.size ≤ g) : ¬ InW A F g := fun h1 => by have := h.old g h1; omega
theorem OwnW.qhm (h : OwnW T EF EI w' B F A c xs) {g t : Nat} {cs : Array Value} (k : Blk w g t cs) (hB : w.heap.size ≤ B) : ¬ InW A F g := fun h1 => by have := h.lowW g h1; have := k.lt; omega
theorem qn2 {A : Nat → Prop} {b : Nat} (h : ¬ A b) : ∀ g, A g → ¬ (g = b) := fun _ h_ e => h (e ▸ h_)
theorem Blk.uniq {g t t' : Nat} {cs cs' : Array Value} (h : Blk w g t cs) (k : Blk w g t' cs') : t = t' := by
 unfold Blk at *; rw [h] at k; injection k with k; injection k
theorem OwnW.qes (h : OwnW T EF EI w B F A c xs) {g t : Nat} {cs : Array Value} (k : Blk w g t cs) (h1 : t ≠ T) (h2 : t ≠ EF.tid) (h3 : t ≠ EI.tid) : ¬ InW A F g := by
 rintro (hg | hg)
 ·obtain ⟨hs, _, h2, _, _⟩ := h.ex
  obtain ⟨a, rfl, rfl⟩ := hg
  cases h2 with
  | blk hB hb hc hz hx => exact h1 (k.uniq hb)
 ·obtain ⟨t', cs, hb, ht⟩ := h.typ g hg
  rcases ht with rfl | rfl
  ·exact h2 (k.uniq hb)
  ·exact h3 (k.uniq hb)
theorem OwnW.qhV (h : OwnW T EF EI w B F A c xs) {α : Type} {E : El α} {X : Option Addr} {c' B' : Nat} {ys : List α} (k : Own E w B' X c' ys) (h1 : E.tid ≠ T) (h2 : E.tid ≠ EF.tid) (h3 : E.tid ≠ EI.tid) : Dis (InW A F) (InB X) := by
 rintro g hg ⟨a, rfl, rfl⟩
 cases k with
 | blk hB hb hc hz hx => exact h.qes hb h1 h2 h3 hg
theorem Own.blkA {α : Type} {E : El α} {X : Option Addr} {c' B' : Nat} {ys : List α} (h : Own E w B' X c' ys) : ∀ g, InB X g → ∃ cs, Blk w g E.tid cs := by
 rintro g ⟨a, rfl, rfl⟩
 cases h with
 | blk hB h hc hz hx => exact ⟨_, h⟩
theorem OwnW.one {y : D.Warp} {fa ra : Option Addr} {fc rc : Nat} (h : Own (elH T) w B A c [⟨y, fa, fc, ra, rc⟩]) (hf : Own EF w B fa fc y.Frames) (hr : Own EI w B ra rc y.Regs) : OwnW T EF EI w B (fun g => InB fa g ∨ InB ra g) A c [y] := by
 refine ⟨⟨_, rfl, h, fun x hx => ?_, List.pairwise_singleton _ _⟩, ?_, ?_⟩
 ·obtain rfl := List.mem_singleton.1 hx
  exact ⟨hf, hr, fun g hg => hg⟩
 ·rintro g (hg | hg)
  ·exact hf.low g hg
  ·exact hr.low g hg
 ·rintro g (hg | hg)
  ·obtain ⟨cs, hb⟩ := hf.blkA g hg; exact ⟨_, cs, hb, .inl rfl⟩
  ·obtain ⟨cs, hb⟩ := hr.blkA g hg; exact ⟨_, cs, hb, .inr rfl⟩
theorem OwnW.qmt (h : OwnW T EF EI w B F A c xs) (hTF : EF.tid ≠ T) (hTI : EI.tid ≠ T) : Dis F (InB A) := by
 intro g hg hA
 obtain ⟨hs, _, h2, _, _⟩ := h.ex
 obtain ⟨cs, hb⟩ := h2.blkA g hA
 obtain ⟨t, cs', hb', ht⟩ := h.typ g hg
 rcases ht with rfl | rfl
 ·exact hTF (hb'.uniq hb)
 ·exact hTI (hb'.uniq hb)
theorem qmd {P : Program} {t1 t2 e2 ty : TypeId} (TT : SlT P (elH T) t1) (h2 : P.underlying t2 = some (.slice e2)) {w0 : World} {n2 n : Nat} {A2 : Option Addr} {c2 : Nat} {F2 : Nat → Prop} {ys : List D.Warp}
    (hO : OwnW T EF EI w w0.heap.size F A c xs) (hY : OwnW T EF EI w w0.heap.size F2 A2 c2 ys) (hd : Dis (InW A F) (InW A2 F2)) (hTF : EF.tid ≠ T) (hTI : EI.tid ≠ T) (hB : w0.heap.size ≤ w.heap.size) (hn : n = xs.length) (hn2 : n2 = ys.length) (hl : xs.length + ys.length ≤ 17179869184)
    {k : Option Addr → Nat → Nat → World → Prop} (h : ∀ A' c' w', OwnW T EF EI w' w0.heap.size (fun g => F g ∨ F2 g) A' c' (xs ++ ys) → qgC A A' w w' → k A' (xs ++ ys).length c' w') :
    Run P (Builtin.append_ #[t1, t2] ty #[.slice A n c, .slice A2 n2 c2]) w fun v w' => ∃ (A' : Option Addr) (n' c' : Nat), v = .slice A' n' c' ∧ k A' n' c' w' := by
 obtain ⟨hs, rfl, x2, x3, x4⟩ := hO.ex
 obtain ⟨ks, rfl, y2, y3, y4⟩ := hY.ex
 have hl' : hs.length + ks.length ≤ 17179869184 := by simpa using hl
 have hfo := hO.qmt hTF hTI
 have hF2 : Dis F2 (InB A) := fun g hg hA => hd g (.inl hA) (.inr hg)
 have hll : (hs.map HW.w ++ ks.map HW.w).length = (hs ++ ks).length := by simp
 rw [hll] at h
 refine appOwn TT h2 x2 y2.row hB (by simpa using hn) (by simpa using hn2) hl' fun A' c' w' ho e => h A' c' w' ?_ e
 have ec := e.qmS
 refine ⟨⟨hs ++ ks, by simp, ho, fun x hx => ?_, ?_⟩, ?_, ?_⟩
 ·rcases List.mem_append.1 hx with hx | hx
  ·obtain ⟨k1, k2, k3⟩ := x3 x hx
   exact ⟨k1.chgS ec fun g hg => hfo g (k3 g (.inl hg)), k2.chgS ec fun g hg => hfo g (k3 g (.inr hg)), fun g hg => .inl (k3 g hg)⟩
  ·obtain ⟨k1, k2, k3⟩ := y3 x hx
   exact ⟨k1.chgS ec fun g hg => hF2 g (k3 g (.inl hg)), k2.chgS ec fun g hg => hF2 g (k3 g (.inr hg)), fun g hg => .inr (k3 g hg)⟩
 ·rw [List.pairwise_append]
  exact ⟨x4, y4, fun a ha b hb g h1 h2 => hd g (.inr ((x3 a ha).2.2 g h1)) (.inr ((y3 b hb).2.2 g h2))⟩
 ·rintro g (hg | hg)
  ·exact hO.low g hg
  ·exact hY.low g hg
 ·rintro g (hg | hg)
  ·obtain ⟨t, cs, hb, ht⟩ := hO.typ g hg; exact ⟨t, cs, hb.chgS ec (hfo g hg), ht⟩
  ·obtain ⟨t, cs, hb, ht⟩ := hY.typ g hg; exact ⟨t, cs, hb.chgS ec (hF2 g hg), ht⟩
theorem qfl {Q : Nat → Prop} : Dis (InW none fun _ => False) Q := fun g h _ => h.elim (fun h => h.none) id
theorem qmm {F2 : Nat → Prop} {A' A2 : Option Addr} {α : Type} {E : El α} {X : Option Addr} {c' B' : Nat} {ys : List α} (h1 : Dis (InW A F) (InB X)) (h2 : Dis (InW A2 F2) (InB X)) (e : qgC A A' w w') (o : Own E w B' X c' ys) : Dis (InW A' fun g => F g ∨ F2 g) (InB X) := by
 rintro g (hg | hg | hg) hx
 ·obtain ⟨a', ha', rfl⟩ := hg
  rcases e.blk a' ha' with ⟨a, ha, hb⟩ | hge
  ·exact h1 _ (.inl ⟨a, ha, hb⟩) hx
  ·have := o.oldA _ hx; omega
 ·exact h1 g (.inr hg) hx
 ·exact h2 g (.inr hg) hx
theorem qnM {w0 : World} {A' : Option Addr} (h : Ext w0 w) (e : qgC A A' w w') (ho : OwnW T EF EI w w0.heap.size F A c xs) : Ext w0 w' :=
 ⟨e.os.trans h.os, e.tape.trans h.tape, e.output.trans h.output, Nat.le_trans h.size e.size, fun i hi => (e.block i (Nat.lt_of_lt_of_le hi h.size) (fun a ha hb => by have := ho.lowW i (.inl ⟨a, ha, hb⟩); omega)).trans (h.block i hi)⟩
end
end Go.V
