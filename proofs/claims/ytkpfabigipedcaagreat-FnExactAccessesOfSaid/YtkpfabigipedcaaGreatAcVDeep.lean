import Derived.Test.YtkpfabigipedcaaGreatAcPure
set_option linter.unusedVariables false
set_option linter.unusedSimpArgs false
namespace Go.V
structure HW where
 w : D.Warp
 fa : Option Addr
 fc : Nat
 ra : Option Addr
 rc : Nat
 deriving Inhabited
def elH (T : Nat) : El HW := { sz := 3, tid := T, enc := fun x => [.int .i64 x.w.Number, .slice x.fa x.w.Frames.length x.fc, .slice x.ra x.w.Regs.length x.rc], len := fun _ => rfl, pos := by decide, one := fun _ => rfl }
def RowW (T : Nat) (EF : El D.Frame) (EI : El Int) (w : World) (A : Option Addr) (xs : List D.Warp) : Prop :=
 ∃ hs : List HW, hs.map HW.w = xs ∧ Row (elH T) w A hs ∧ ∀ h ∈ hs, Row EF w h.fa h.w.Frames ∧ h.w.Frames.length ≤ h.fc ∧ Row EI w h.ra h.w.Regs ∧ h.w.Regs.length ≤ h.rc
theorem RowW.nil (T : Nat) (EF : El D.Frame) (EI : El Int) (w : World) (A : Option Addr) : RowW T EF EI w A [] := ⟨[], rfl, Row.nil _ _ _, fun h hh => by cases hh⟩
theorem RowW.ext {T : Nat} {EF : El D.Frame} {EI : El Int} {w w' : World} {A : Option Addr} {xs : List D.Warp} (h : RowW T EF EI w A xs) (e : Ext w w') : RowW T EF EI w' A xs := by
 obtain ⟨hs, h1, h2, h3⟩ := h
 exact ⟨hs, h1, h2.ext e, fun x hx => ⟨(h3 x hx).1.ext e, (h3 x hx).2.1, (h3 x hx).2.2.1.ext e, (h3 x hx).2.2.2⟩⟩
theorem rd_map {α β : Type} [Inhabited α] [Inhabited β] (f : α → β) {xs : List α} {i : Int} (h0 : 0 ≤ i) (h1 : i < ((xs.length : Nat) : Int)) : rd (xs.map f) i = f (rd xs i) := by
 have : i.toNat < xs.length := by omega
 simp [rd, List.getD_eq_getElem?_getD, this]
theorem rd_in {α : Type} [Inhabited α] {xs : List α} {i : Int} (h0 : 0 ≤ i) (h1 : i < ((xs.length : Nat) : Int)) : rd xs i ∈ xs := by
 have : i.toNat < xs.length := by omega
 simp [rd, List.getD_eq_getElem?_getD, this]
theorem RowW.at {T : Nat} {EF : El D.Frame} {EI : El Int} {w : World} {A : Option Addr} {xs : List D.Warp} (h : RowW T EF EI w A xs) {i : Int} (h0 : 0 ≤ i) (h1 : i < ((xs.length : Nat) : Int)) :
    ∃ a, A = some a ∧ ∃ (fa : Option Addr) (fc : Nat) (ra : Option Addr) (rc : Nat),
     w.cell? ((a.add (i.toNat * 3)).add 0) = some (.int .i64 (rd xs i).Number) ∧ w.cell? ((a.add (i.toNat * 3)).add 1) = some (.slice fa (rd xs i).Frames.length fc) ∧ w.cell? ((a.add (i.toNat * 3)).add 2) = some (.slice ra (rd xs i).Regs.length rc) ∧
     Row EF w fa (rd xs i).Frames ∧ (rd xs i).Frames.length ≤ fc ∧ Row EI w ra (rd xs i).Regs ∧ (rd xs i).Regs.length ≤ rc := by
 obtain ⟨hs, rfl, h2, h3⟩ := h
 rw [List.length_map] at h1
 rw [rd_map HW.w h0 h1]
 obtain ⟨a, ha, hc⟩ := h2.at h0 h1
 obtain ⟨g1, g2, g3, g4⟩ := h3 _ (rd_in h0 h1)
 exact ⟨a, ha, _, _, _, _, hc 0 _ rfl, hc 1 _ rfl, hc 2 _ rfl, g1, g2, g3, g4⟩

theorem RowW.old {T : Nat} {EF : El D.Frame} {EI : El Int} {w : World} {A : Option Addr} {xs : List D.Warp} (h : RowW T EF EI w A xs) (hx : xs ≠ []) : ∀ g, InB A g → g < w.heap.size := by
 obtain ⟨hs, rfl, h2, h3⟩ := h
 exact h2.old fun e => hx (by rw [e]; rfl)
def InH (h : HW) (g : Nat) : Prop := InB h.fa g ∨ InB h.ra g
def InW (A : Option Addr) (F : Nat → Prop) (g : Nat) : Prop := InB A g ∨ F g
def Dis (P Q : Nat → Prop) : Prop := ∀ g, P g → ¬ Q g
theorem Dis.symm {P Q : Nat → Prop} (h : Dis P Q) : Dis Q P := fun g hq hp => h g hp hq
structure OwnW (T : Nat) (EF : El D.Frame) (EI : El Int) (w : World) (B : Nat) (F : Nat → Prop) (A : Option Addr) (c : Nat) (xs : List D.Warp) : Prop where
 ex : ∃ hs : List HW, hs.map HW.w = xs ∧ Own (elH T) w B A c hs ∧ (∀ h ∈ hs, Own EF w B h.fa h.fc h.w.Frames ∧ Own EI w B h.ra h.rc h.w.Regs ∧ ∀ g, InH h g → F g) ∧ hs.Pairwise fun h k => Dis (InH h) (InH k)
 low : ∀ g, F g → B ≤ g
 typ : ∀ g, F g → ∃ t cs, Blk w g t cs ∧ (t = EF.tid ∨ t = EI.tid)
section
variable {T : Nat} {EF : El D.Frame} {EI : El Int} {w w' : World} {B c : Nat} {F : Nat → Prop} {A : Option Addr} {xs : List D.Warp}
theorem OwnW.nil : OwnW T EF EI w B (fun _ => False) none 0 [] := ⟨⟨[], rfl, Own.nil, (fun h hh => absurd hh List.not_mem_nil), List.Pairwise.nil⟩, fun _ h => h.elim, fun _ h => h.elim⟩
theorem OwnW.row (h : OwnW T EF EI w B F A c xs) : RowW T EF EI w A xs := by
 obtain ⟨hs, h1, h2, h3, _⟩ := h.ex
 exact ⟨hs, h1, h2.row, fun x hx => ⟨(h3 x hx).1.row, (h3 x hx).1.le, (h3 x hx).2.1.row, (h3 x hx).2.1.le⟩⟩
theorem OwnW.le (h : OwnW T EF EI w B F A c xs) : xs.length ≤ c := by
 obtain ⟨hs, h1, h2, h3, _⟩ := h.ex
 rw [← h1, List.length_map]; exact h2.le
theorem OwnW.ext (h : OwnW T EF EI w B F A c xs) (e : Ext w w') : OwnW T EF EI w' B F A c xs := by
 obtain ⟨hs, h1, h2, h3, h4⟩ := h.ex
 exact ⟨⟨hs, h1, h2.ext e, fun x hx => ⟨(h3 x hx).1.ext e, (h3 x hx).2.1.ext e, (h3 x hx).2.2⟩, h4⟩, h.low, fun g hg => let ⟨t, cs, hb, ht⟩ := h.typ g hg; ⟨t, cs, hb.ext e, ht⟩⟩
theorem OwnW.mono {B' : Nat} (h : OwnW T EF EI w B F A c xs) (hB : B' ≤ B) : OwnW T EF EI w B' F A c xs := by
 obtain ⟨hs, h1, h2, h3, h4⟩ := h.ex
 exact ⟨⟨hs, h1, h2.mono hB, fun x hx => ⟨(h3 x hx).1.mono hB, (h3 x hx).2.1.mono hB, (h3 x hx).2.2⟩, h4⟩, fun g hg => Nat.le_trans hB (h.low g hg), h.typ⟩
theorem OwnW.kept (h : OwnW T EF EI w B F A c xs) {S : Nat → Prop} (e : Chg S w w') (hd : Dis (InW A F) S) : OwnW T EF EI w' B F A c xs := by
 obtain ⟨hs, h1, h2, h3, h4⟩ := h.ex
 have hF : ∀ g, F g → ¬ S g := fun g hg => hd g (.inr hg)
 refine ⟨⟨hs, h1, h2.chgS e fun g hg => hd g (.inl hg), fun x hx => ?_, h4⟩, h.low, fun g hg => ?_⟩
 ·obtain ⟨k1, k2, k3⟩ := h3 x hx
  exact ⟨k1.chgS e fun g hg => hF g (k3 g (.inl hg)), k2.chgS e fun g hg => hF g (k3 g (.inr hg)), k3⟩
 ·obtain ⟨t, cs, hb, ht⟩ := h.typ g hg
  exact ⟨t, cs, hb.chgS e (hF g hg), ht⟩
theorem ChgB.toChg {g : Nat} (e : ChgB g w w') : Chg (fun k => k = g) w w' := ⟨e.os, e.tape, e.output, e.size, fun k hk hn => e.block k hk hn⟩
theorem AppEv.toChg {X X' : Option Addr} (e : AppEv X X' w w') : Chg (InB X) w w' := ⟨e.os, e.tape, e.output, e.size, fun k hk hn => e.block k hk fun a ha hb => hn ⟨a, ha, hb⟩⟩
theorem OwnW.chg (h : OwnW T EF EI w B F A c xs) {k : Nat} (e : ChgB k w w') (hd : ¬ InW A F k) : OwnW T EF EI w' B F A c xs := h.kept e.toChg fun g hg hk => hd (hk ▸ hg)
theorem OwnW.app (h : OwnW T EF EI w B F A c xs) {X X' : Option Addr} (e : AppEv X X' w w') (hd : Dis (InW A F) (InB X)) : OwnW T EF EI w' B F A c xs := h.kept e.toChg hd
theorem OwnW.old (h : OwnW T EF EI w B F A c xs) : ∀ g, InW A F g → g < w.heap.size := by
 rintro g (hg | hg)
 ·obtain ⟨hs, h1, h2, h3, h4⟩ := h.ex
  obtain ⟨a, rfl, rfl⟩ := hg
  cases h2 with
  | blk hB h' hc hz hx => exact h'.lt
 ·obtain ⟨t, cs, hb, ht⟩ := h.typ g hg
  exact hb.lt
theorem OwnW.lowW (h : OwnW T EF EI w B F A c xs) : ∀ g, InW A F g → B ≤ g := by
 rintro g (hg | hg)
 ·obtain ⟨hs, h1, h2, h3, h4⟩ := h.ex
  exact h2.low g hg
 ·exact h.low g hg
theorem Own.oldA {α : Type} {E : El α} {X : Option Addr} {c' B' : Nat} {ys : List α} (h : Own E w B' X c' ys) : ∀ g, InB X g → g < w.heap.size := by
 rintro g ⟨a, rfl, rfl⟩
 cases h with
 | blk hB h hc hz hx => exact h.lt
theorem OwnW.dis_new (h : OwnW T EF EI w B F A c xs) {α : Type} {E : El α} {X : Option Addr} {c' B' : Nat} {ys : List α} (k : Own E w' B' X c' ys) (hB : w.heap.size ≤ B') : Dis (InW A F) (InB X) :=
 fun g h1 h2 => by have := h.old g h1; have := k.low g h2; omega
theorem OwnW.new_dis (h : OwnW T EF EI w' B F A c xs) {α : Type} {E : El α} {X : Option Addr} {c' B' : Nat} {ys : List α} (k : Own E w B' X c' ys) (hB : w.heap.size ≤ B) : Dis (InW A F) (InB X) :=
 fun g h1 h2 => by have := h.lowW g h1; have := k.oldA g h2; omega
theorem OwnW.dis_newbox (h : OwnW T EF EI w B F A c xs) {g : Nat} (hg : w.heap.size ≤ g) : ¬ InW A F g := fun h1 => by have := h.old g h1; omega
theorem OwnW.new_disbox (h : OwnW T EF EI w' B F A c xs) {g t : Nat} {cs : Array Value} (k : Blk w g t cs) (hB : w.heap.size ≤ B) : ¬ InW A F g := fun h1 => by have := h.lowW g h1; have := k.lt; omega
theorem Blk.uniq {g t t' : Nat} {cs cs' : Array Value} (h : Blk w g t cs) (k : Blk w g t' cs') : t = t' := by
 unfold Blk at *; rw [h] at k; injection k with k; injection k
theorem OwnW.dis_blk (h : OwnW T EF EI w B F A c xs) {g t : Nat} {cs : Array Value} (k : Blk w g t cs) (h1 : t ≠ T) (h2 : t ≠ EF.tid) (h3 : t ≠ EI.tid) : ¬ InW A F g := by
 rintro (hg | hg)
 ·obtain ⟨hs, _, h2, _, _⟩ := h.ex
  obtain ⟨a, rfl, rfl⟩ := hg
  cases h2 with
  | blk hB hb hc hz hx => exact h1 (k.uniq hb)
 ·obtain ⟨t', cs, hb, ht⟩ := h.typ g hg
  rcases ht with rfl | rfl
  ·exact h2 (k.uniq hb)
  ·exact h3 (k.uniq hb)
theorem OwnW.dis_type (h : OwnW T EF EI w B F A c xs) {α : Type} {E : El α} {X : Option Addr} {c' B' : Nat} {ys : List α} (k : Own E w B' X c' ys) (h1 : E.tid ≠ T) (h2 : E.tid ≠ EF.tid) (h3 : E.tid ≠ EI.tid) : Dis (InW A F) (InB X) := by
 rintro g hg ⟨a, rfl, rfl⟩
 cases k with
 | blk hB hb hc hz hx => exact h.dis_blk hb h1 h2 h3 hg
theorem OwnW.made {n : Nat} (h : Own (elH T) w B A c (List.replicate n (default : HW))) : OwnW T EF EI w B (fun _ => False) A c (List.replicate n (default : D.Warp)) := by
 refine ⟨⟨_, by simp; exact .inr rfl, h, fun x hx => ?_, ?_⟩, fun _ h => h.elim, fun _ h => h.elim⟩
 ·obtain rfl := (List.mem_replicate.1 hx).2
  refine ⟨.nil, .nil, ?_⟩
  rintro g (hg | hg)
  ·exact (InB.none hg).elim
  ·exact (InB.none hg).elim
 ·rw [List.pairwise_replicate]
  right
  rintro g (hg | hg)
  ·exact (InB.none hg).elim
  ·exact (InB.none hg).elim
theorem Own.blkA {α : Type} {E : El α} {X : Option Addr} {c' B' : Nat} {ys : List α} (h : Own E w B' X c' ys) : ∀ g, InB X g → ∃ cs, Blk w g E.tid cs := by
 rintro g ⟨a, rfl, rfl⟩
 cases h with
 | blk hB h hc hz hx => exact ⟨_, h⟩
theorem ChgB.own {α : Type} {E : El α} {X : Option Addr} {c' B' k : Nat} {ys : List α} (h : Own E w B' X c' ys) (e : ChgB k w w') (hk : ¬ InB X k) : Own E w' B' X c' ys := h.chg e fun a ha hb => hk ⟨a, ha, hb⟩
theorem OwnW.storeAt (h : OwnW T EF EI w B F A c xs) {a : Addr} (ha : A = some a) {i : Int} (h0 : 0 ≤ i) (h1 : i < ((xs.length : Nat) : Int)) (y : D.Warp) {fa ra : Option Addr} {fc rc : Nat}
    (hf : Own EF w B fa fc y.Frames) (hr : Own EI w B ra rc y.Regs) (hTF : EF.tid ≠ T) (hTI : EI.tid ≠ T) (hdf : Dis (InW A F) (InB fa)) (hdr : Dis (InW A F) (InB ra)) {k : World → Prop}
    (hk : ∀ w1, OwnW T EF EI w1 B (fun g => F g ∨ InB fa g ∨ InB ra g) A c (xs.set i.toNat y) → ChgB a.block w w1 → B ≤ a.block → k w1) :
    stCells ((a.add (i.toNat * 3)).add 0) [.int .i64 y.Number, .slice fa y.Frames.length fc, .slice ra y.Regs.length rc] 0 w k := by
 obtain ⟨hs, rfl, h2, h3, h4⟩ := h.ex
 rw [List.length_map] at h1
 have hst := h2.storeAt ha h0 h1 0 [.int .i64 y.Number, .slice fa y.Frames.length fc, .slice ra y.Regs.length rc] (⟨y, fa, fc, ra, rc⟩ : HW) rfl (Nat.le_refl _) rfl (k := k)
 refine hst fun w1 ho hc hB => hk w1 ?_ hc hB
 have hblk : ∀ g, g = a.block → InB A g := fun g e => ⟨a, ha, e.symm⟩
 have hA0 : ∃ cs, Blk w a.block T cs := h2.blkA a.block (hblk _ rfl)
 obtain ⟨csA, hA0⟩ := hA0
 have nf : ¬ InB fa a.block := fun hg => by obtain ⟨cs, hb⟩ := hf.blkA _ hg; exact hTF (hb.uniq hA0)
 have nr : ¬ InB ra a.block := fun hg => by obtain ⟨cs, hb⟩ := hr.blkA _ hg; exact hTI (hb.uniq hA0)
 have nF : ¬ F a.block := fun hg => by
  obtain ⟨t, cs, hb, ht⟩ := h.typ _ hg
  rcases ht with rfl | rfl
  ·exact hTF (hb.uniq hA0)
  ·exact hTI (hb.uniq hA0)
 have hf' := ChgB.own hf hc nf
 have hr' := ChgB.own hr hc nr
 refine ⟨⟨hs.set i.toNat ⟨y, fa, fc, ra, rc⟩, by rw [List.map_set], ho, fun x hx => ?_, ?_⟩, ?_, ?_⟩
 ·rcases List.mem_or_eq_of_mem_set hx with hx | rfl
  ·obtain ⟨k1, k2, k3⟩ := h3 x hx
   exact ⟨ChgB.own k1 hc fun hg => nF (k3 _ (.inl hg)), ChgB.own k2 hc fun hg => nF (k3 _ (.inr hg)), fun g hg => .inl (k3 g hg)⟩
  ·exact ⟨hf', hr', fun g hg => .inr hg⟩
 ·rw [List.pairwise_iff_getElem] at h4 ⊢
  intro p q hp hq hpq
  rw [List.length_set] at hp hq
  rw [List.getElem_set, List.getElem_set]
  have up : ∀ (j : Nat) (hj : j < hs.length) (g : Nat), InH hs[j] g → ¬ InH (⟨y, fa, fc, ra, rc⟩ : HW) g := by
   intro j hj g hg hg'
   have := (h3 _ (List.getElem_mem hj)).2.2 g hg
   rcases hg' with hg' | hg'
   ·exact hdf g (.inr this) hg'
   ·exact hdr g (.inr this) hg'
  split
  ·split
   ·omega
   ·exact fun g h1 h2 => up _ hq g h2 h1
  ·split
   ·exact up _ hp
   ·exact h4 p q hp hq hpq
 ·rintro g (hg | hg | hg)
  ·exact h.low g hg
  ·exact hf.low g hg
  ·exact hr.low g hg
 ·rintro g (hg | hg | hg)
  ·obtain ⟨t, cs, hb, ht⟩ := h.typ g hg
   exact ⟨t, cs, hb.chg hc (fun e => nF (e ▸ hg)), ht⟩
  ·obtain ⟨cs, hb⟩ := hf'.blkA g hg
   exact ⟨_, cs, hb, .inl rfl⟩
  ·obtain ⟨cs, hb⟩ := hr'.blkA g hg
   exact ⟨_, cs, hb, .inr rfl⟩
theorem OwnW.one {y : D.Warp} {fa ra : Option Addr} {fc rc : Nat} (h : Own (elH T) w B A c [⟨y, fa, fc, ra, rc⟩]) (hf : Own EF w B fa fc y.Frames) (hr : Own EI w B ra rc y.Regs) : OwnW T EF EI w B (fun g => InB fa g ∨ InB ra g) A c [y] := by
 refine ⟨⟨_, rfl, h, fun x hx => ?_, List.pairwise_singleton _ _⟩, ?_, ?_⟩
 ·obtain rfl := List.mem_singleton.1 hx
  exact ⟨hf, hr, fun g hg => hg⟩
 ·rintro g (hg | hg)
  ·exact hf.low g hg
  ·exact hr.low g hg
 ·rintro g (hg | hg)
  ·obtain ⟨cs, hb⟩ := hf.blkA g hg; exact ⟨_, cs, hb, .inl rfl⟩
  ·obtain ⟨cs, hb⟩ := hr.blkA g hg; exact ⟨_, cs, hb, .inr rfl⟩
theorem OwnW.up {ys : List D.Warp} (h : OwnW T EF EI w' 0 F A c xs) (k : OwnW T EF EI w B F A c ys) : OwnW T EF EI w' B F A c xs := by
 obtain ⟨hs, h1, h2, h3, h4⟩ := h.ex
 obtain ⟨ks, k1, k2, k3, k4⟩ := k.ex
 exact ⟨⟨hs, h1, h2.up k2, fun x hx => ⟨(h3 x hx).1.lift fun g hg => k.low g ((h3 x hx).2.2 g (.inl hg)), (h3 x hx).2.1.lift fun g hg => k.low g ((h3 x hx).2.2 g (.inr hg)), (h3 x hx).2.2⟩, h4⟩, k.low, h.typ⟩
theorem OwnW.cellsAt (h : OwnW T EF EI w B F A c xs) {a : Addr} (ha : A = some a) {i : Int} (h0 : 0 ≤ i) (h1 : i < ((xs.length : Nat) : Int)) :
    ∃ (fa : Option Addr) (fc : Nat) (ra : Option Addr) (rc : Nat), w.cell? ((a.add (i.toNat * 3)).add 0) = some (.int .i64 (rd xs i).Number) ∧ w.cell? ((a.add (i.toNat * 3)).add 1) = some (.slice fa (rd xs i).Frames.length fc) ∧ w.cell? ((a.add (i.toNat * 3)).add 2) = some (.slice ra (rd xs i).Regs.length rc) := by
 obtain ⟨a', ha', fa, fc, ra, rc, c0, c1, c2, _⟩ := h.row.at h0 h1
 rw [ha] at ha'; cases ha'
 exact ⟨fa, fc, ra, rc, c0, c1, c2⟩
theorem OwnW.part (h : OwnW T EF EI w B F A c xs) {i : Int} (h0 : 0 ≤ i) (h1 : i < ((xs.length : Nat) : Int)) :
    ∃ a, A = some a ∧ ∃ (fa : Option Addr) (fc : Nat) (ra : Option Addr) (rc : Nat), w.cell? ((a.add (i.toNat * 3)).add 1) = some (.slice fa (rd xs i).Frames.length fc) ∧ w.cell? ((a.add (i.toNat * 3)).add 2) = some (.slice ra (rd xs i).Regs.length rc) ∧
     (Own EF w B fa fc (rd xs i).Frames ∧ (∀ g, InB fa g → F g) ∧ (EF.tid ≠ EI.tid → EF.tid ≠ T → ∀ w' fr, Chg (InB fa) w w' → Own EF w' 0 fa fc fr → fr.length = (rd xs i).Frames.length → OwnW T EF EI w' B F A c (xs.set i.toNat ⟨(rd xs i).Number, fr, (rd xs i).Regs⟩))) ∧
     (Own EI w B ra rc (rd xs i).Regs ∧ (∀ g, InB ra g → F g) ∧ (EF.tid ≠ EI.tid → EI.tid ≠ T → ∀ w' rg, Chg (InB ra) w w' → Own EI w' 0 ra rc rg → rg.length = (rd xs i).Regs.length → OwnW T EF EI w' B F A c (xs.set i.toNat ⟨(rd xs i).Number, (rd xs i).Frames, rg⟩))) := by
 obtain ⟨hs, rfl, h2, h3, h4⟩ := h.ex
 rw [List.length_map] at h1
 rw [rd_map HW.w h0 h1]
 obtain ⟨a, ha, hc⟩ := h2.row.at h0 h1
 have hin := rd_in h0 h1
 have hil : i.toNat < hs.length := by omega
 have hget : hs[i.toNat] = rd hs i := by simp [rd, List.getD_eq_getElem?_getD, hil]
 obtain ⟨k1, k2, k3⟩ := h3 _ hin
 have same : ∀ (X : HW), X.fa = (rd hs i).fa → X.fc = (rd hs i).fc → X.ra = (rd hs i).ra → X.rc = (rd hs i).rc → X.w.Number = (rd hs i).w.Number → X.w.Frames.length = (rd hs i).w.Frames.length → X.w.Regs.length = (rd hs i).w.Regs.length → (elH T).enc X = (elH T).enc (rd hs i) := by
  intro X e1 e2 e3 e4 e5 e6 e7
  show [Value.int .i64 X.w.Number, .slice X.fa X.w.Frames.length X.fc, .slice X.ra X.w.Regs.length X.rc] = [Value.int .i64 (rd hs i).w.Number, .slice (rd hs i).fa (rd hs i).w.Frames.length (rd hs i).fc, .slice (rd hs i).ra (rd hs i).w.Regs.length (rd hs i).rc]
  rw [e1, e2, e3, e4, e5, e6, e7]
 have outer : ∀ (X : HW) (w' : World), (elH T).enc X = (elH T).enc (rd hs i) → Own (elH T) w' B A c hs → Own (elH T) w' B A c (hs.set i.toNat X) := by
  intro X w' he ho
  cases ho with
  | nil => simp at hil
  | blk hB hb hc' hz hx =>
   refine .blk hB hb (by simpa using hc') hz fun j x hj i' v hv => ?_
   rw [List.getElem?_set] at hj
   split at hj
   ·rename_i e
    subst e
    try rw [if_pos hil] at hj
    cases hj
    rw [he] at hv
    exact hx _ _ (by rw [List.getElem?_eq_getElem hil, hget]) i' v hv
   ·exact hx j x hj i' v hv
 have kept : ∀ (S : Nat → Prop) (w' : World) (X : HW), Chg S w w' → (∀ g, S g → InH (rd hs i) g) → (∀ g, S g → ¬ InB A g) → (elH T).enc X = (elH T).enc (rd hs i) → (∀ g, InH X g ↔ InH (rd hs i) g) → Own EF w' B X.fa X.fc X.w.Frames → Own EI w' B X.ra X.rc X.w.Regs →
     (∀ g, F g → S g → ∃ t cs, Blk w' g t cs ∧ (t = EF.tid ∨ t = EI.tid)) → ∃ gs : List HW, gs = hs.set i.toNat X ∧ Own (elH T) w' B A c gs ∧ (∀ x ∈ gs, Own EF w' B x.fa x.fc x.w.Frames ∧ Own EI w' B x.ra x.rc x.w.Regs ∧ ∀ g, InH x g → F g) ∧ (gs.Pairwise fun h k => Dis (InH h) (InH k)) ∧ (∀ g, F g → ∃ t cs, Blk w' g t cs ∧ (t = EF.tid ∨ t = EI.tid)) := by
  intro S w' X e hS hSA he hX o1 o2 hT
  refine ⟨_, rfl, outer X w' he (h2.chgS e fun g hg hg' => hSA g hg' hg), fun x hx => ?_, ?_, fun g hg => ?_⟩
  ·obtain ⟨j, hj, rfl⟩ := List.getElem_of_mem hx
   rw [List.getElem_set]
   split
   ·exact ⟨o1, o2, fun g hg => k3 g ((hX g).1 hg)⟩
   ·rename_i hne
    have hj' : j < hs.length := by simpa using hj
    have hd : Dis (InH hs[j]) (InH (rd hs i)) := by
     rw [← hget]
     rw [List.pairwise_iff_getElem] at h4
     rcases Nat.lt_or_gt_of_ne hne with hlt | hlt
     ·exact (h4 _ _ hil hj' hlt).symm
     ·exact h4 _ _ hj' hil hlt
    obtain ⟨m1, m2, m3⟩ := h3 _ (List.getElem_mem hj')
    exact ⟨m1.chgS e fun g hg hg' => hd g (.inl hg) (hS g hg'), m2.chgS e fun g hg hg' => hd g (.inr hg) (hS g hg'), m3⟩
  ·rw [List.pairwise_iff_getElem] at h4 ⊢
   intro p q hp hq hpq
   rw [List.length_set] at hp hq
   rw [List.getElem_set, List.getElem_set]
   split
   ·rename_i e1
    split
    ·omega
    ·intro g hg hg'
     have := (hX g).1 hg
     rw [← hget] at this
     exact h4 _ _ hil hq (by omega) g this hg'
   ·split
    ·rename_i e1
     intro g hg hg'
     have := (hX g).1 hg'
     rw [← hget] at this
     exact h4 _ _ hp hil (by omega) g hg this
    ·exact h4 _ _ hp hq hpq
  ·by_cases hg' : S g
   ·exact hT g hg hg'
   ·obtain ⟨t, cs, hb, ht⟩ := h.typ g hg
    exact ⟨t, cs, hb.chgS e hg', ht⟩
 have hout : ∀ (E : Nat) (g : Nat) (cs : Array Value), Blk w g E cs → E ≠ T → ¬ InB A g := by
  intro E g cs hb hne hA
  obtain ⟨cs', hb'⟩ := h2.blkA g hA
  exact hne (hb.uniq hb')
 refine ⟨a, ha, _, _, _, _, hc 1 _ rfl, hc 2 _ rfl, ⟨k1, fun g hg => k3 g (.inl hg), fun hne hT w' fr e ho hl => ?_⟩, ⟨k2, fun g hg => k3 g (.inr hg), fun hne hT w' rg e ho hl => ?_⟩⟩
 ·obtain ⟨gs, rfl, g2, g3, g4, g5⟩ := kept (InB (rd hs i).fa) w' ⟨⟨(rd hs i).w.Number, fr, (rd hs i).w.Regs⟩, (rd hs i).fa, (rd hs i).fc, (rd hs i).ra, (rd hs i).rc⟩ e (fun g hg => .inl hg) (fun g hg => let ⟨cs, hb⟩ := k1.blkA g hg; hout _ g cs hb hT) (same _ rfl rfl rfl rfl rfl hl rfl) (fun g => Iff.rfl)
    (ho.lift k1.low) (k2.chgS e fun g hg hg' => by obtain ⟨cs, hb⟩ := k1.blkA g hg'; obtain ⟨cs', hb'⟩ := k2.blkA g hg; exact hne (hb.uniq hb')) (fun g _ hg => let ⟨cs, hb⟩ := ho.blkA g hg; ⟨_, cs, hb, .inl rfl⟩)
  exact ⟨⟨_, by rw [List.map_set], g2, g3, g4⟩, h.low, g5⟩
 ·obtain ⟨gs, rfl, g2, g3, g4, g5⟩ := kept (InB (rd hs i).ra) w' ⟨⟨(rd hs i).w.Number, (rd hs i).w.Frames, rg⟩, (rd hs i).fa, (rd hs i).fc, (rd hs i).ra, (rd hs i).rc⟩ e (fun g hg => .inr hg) (fun g hg => let ⟨cs, hb⟩ := k2.blkA g hg; hout _ g cs hb hT) (same _ rfl rfl rfl rfl rfl rfl hl) (fun g => Iff.rfl)
    (k1.chgS e fun g hg hg' => by obtain ⟨cs, hb⟩ := k1.blkA g hg; obtain ⟨cs', hb'⟩ := k2.blkA g hg'; exact hne (hb.uniq hb')) (ho.lift k2.low) (fun g _ hg => let ⟨cs, hb⟩ := ho.blkA g hg; ⟨_, cs, hb, .inr rfl⟩)
  exact ⟨⟨_, by rw [List.map_set], g2, g3, g4⟩, h.low, g5⟩
theorem OwnW.sub1 (h : OwnW T EF EI w B F A c xs) {a : Addr} (ha : A = some a) {i : Int} (h0 : 0 ≤ i) (h1 : i < ((xs.length : Nat) : Int)) {fa : Option Addr} {n fc : Nat} (hc : w.cell? ((a.add (i.toNat * 3)).add 1) = some (.slice fa n fc)) (hne : EF.tid ≠ EI.tid := by decide) (hT : EF.tid ≠ T := by decide) :
    Own EF w B fa fc (rd xs i).Frames ∧ (∀ g, InB fa g → F g) ∧ ∀ w' fr, Chg (InB fa) w w' → Own EF w' 0 fa fc fr → fr.length = (rd xs i).Frames.length → OwnW T EF EI w' B F A c (xs.set i.toNat ⟨(rd xs i).Number, fr, (rd xs i).Regs⟩) := by
 obtain ⟨a', ha', fa', fc', ra', rc', c1, c2, ⟨p1, p2, p3⟩, _⟩ := h.part h0 h1
 rw [ha] at ha'; cases ha'
 rw [hc] at c1; injection c1 with c1; injection c1 with e1 e2 e3
 subst e1 e3
 exact ⟨p1, p2, p3 hne hT⟩
theorem OwnW.sub2 (h : OwnW T EF EI w B F A c xs) {a : Addr} (ha : A = some a) {i : Int} (h0 : 0 ≤ i) (h1 : i < ((xs.length : Nat) : Int)) {ra : Option Addr} {n rc : Nat} (hc : w.cell? ((a.add (i.toNat * 3)).add 2) = some (.slice ra n rc)) (hne : EF.tid ≠ EI.tid := by decide) (hT : EI.tid ≠ T := by decide) :
    Own EI w B ra rc (rd xs i).Regs ∧ (∀ g, InB ra g → F g) ∧ ∀ w' rg, Chg (InB ra) w w' → Own EI w' 0 ra rc rg → rg.length = (rd xs i).Regs.length → OwnW T EF EI w' B F A c (xs.set i.toNat ⟨(rd xs i).Number, (rd xs i).Frames, rg⟩) := by
 obtain ⟨a', ha', fa', fc', ra', rc', c1, c2, _, ⟨p1, p2, p3⟩⟩ := h.part h0 h1
 rw [ha] at ha'; cases ha'
 rw [hc] at c2; injection c2 with c2; injection c2 with e1 e2 e3
 subst e1 e3
 exact ⟨p1, p2, p3 hne hT⟩
theorem OwnW.storeNum (h : OwnW T EF EI w B F A c xs) {a : Addr} (ha : A = some a) {i : Int} (h0 : 0 ≤ i) (h1 : i < ((xs.length : Nat) : Int)) (n : Int) (hTF : EF.tid ≠ T) (hTI : EI.tid ≠ T) {k : World → Prop}
    (hk : ∀ w1, OwnW T EF EI w1 B F A c (xs.set i.toNat ⟨n, (rd xs i).Frames, (rd xs i).Regs⟩) → ChgB a.block w w1 → B ≤ a.block → k w1) : stCells ((a.add (i.toNat * 3)).add 0) [.int .i64 n] 0 w k := by
 obtain ⟨hs, rfl, h2, h3, h4⟩ := h.ex
 rw [List.length_map] at h1
 rw [rd_map HW.w h0 h1] at hk
 have hil : i.toNat < hs.length := by omega
 have hget : hs[i.toNat] = rd hs i := by simp [rd, List.getD_eq_getElem?_getD, hil]
 refine h2.storeAt ha h0 h1 0 [.int .i64 n] (⟨⟨n, (rd hs i).w.Frames, (rd hs i).w.Regs⟩, (rd hs i).fa, (rd hs i).fc, (rd hs i).ra, (rd hs i).rc⟩ : HW) rfl (by show 1 ≤ 3; omega) rfl fun w1 ho hc hB => hk w1 ?_ hc hB
 have hA : InB A a.block := ⟨a, ha, rfl⟩
 obtain ⟨csA, hA0⟩ := h2.blkA a.block hA
 have nF : ¬ F a.block := fun hg => by
  obtain ⟨t, cs, hb, ht⟩ := h.typ _ hg
  rcases ht with rfl | rfl
  ·exact hTF (hb.uniq hA0)
  ·exact hTI (hb.uniq hA0)
 refine ⟨⟨_, by rw [List.map_set], ho, fun x hx => ?_, ?_⟩, h.low, fun g hg => ?_⟩
 ·rcases List.mem_or_eq_of_mem_set hx with hx | rfl
  ·obtain ⟨k1, k2, k3⟩ := h3 x hx
   exact ⟨ChgB.own k1 hc fun hg => nF (k3 _ (.inl hg)), ChgB.own k2 hc fun hg => nF (k3 _ (.inr hg)), k3⟩
  ·obtain ⟨k1, k2, k3⟩ := h3 _ (rd_in h0 h1)
   exact ⟨ChgB.own k1 hc fun hg => nF (k3 _ (.inl hg)), ChgB.own k2 hc fun hg => nF (k3 _ (.inr hg)), k3⟩
 ·rw [List.pairwise_iff_getElem] at h4 ⊢
  intro p q hp hq hpq
  rw [List.length_set] at hp hq
  rw [List.getElem_set, List.getElem_set]
  have := h4 p q hp hq hpq
  split
  ·rename_i e; subst e
   split
   ·omega
   ·rw [hget] at this; exact this
  ·split
   ·rename_i e; subst e
    rw [hget] at this; exact this
   ·exact this
 ·obtain ⟨t, cs, hb, ht⟩ := h.typ g hg
  exact ⟨t, cs, hb.chg hc fun e => nF (e ▸ hg), ht⟩
end
end Go.V
