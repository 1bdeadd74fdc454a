import Derived.Test.YtnbkmenlaogblaaMath6
import Derived.Test.YtnbkmenlaogblaaWp19
set_option linter.unusedVariables false
set_option linter.unusedSimpArgs false
set_option maxRecDepth 20000
namespace Go.V
/-! lists of numbers -/
theorem mem_idx {g : Int → Bool} {x : Int} : ∀ {n : Nat}, x ∈ M.idx g n ↔ ∃ k : Nat, k < n ∧ x = (k : Int) ∧ g x = true
  | 0 => by simp [M.idx]
  | n + 1 => by
    have ih := mem_idx (g := g) (x := x) (n := n)
    unfold M.idx
    constructor
    · intro h
      split at h
      · rename_i e
        rcases List.mem_append.1 h with h | h
        · obtain ⟨k, hk, h1, h2⟩ := ih.1 h; exact ⟨k, by omega, h1, h2⟩
        · obtain rfl := List.mem_singleton.1 h; exact ⟨n, by omega, rfl, e⟩
      · obtain ⟨k, hk, h1, h2⟩ := ih.1 h; exact ⟨k, by omega, h1, h2⟩
    · rintro ⟨k, hk, rfl, h2⟩
      by_cases hkn : k = n
      · subst hkn; rw [if_pos h2]; simp
      · have := ih.2 ⟨k, by omega, rfl, h2⟩
        split
        · exact List.mem_append_left _ this
        · exact this
theorem idx_len (g : Int → Bool) : ∀ n, (M.idx g n).length ≤ n
  | 0 => by simp [M.idx]
  | n + 1 => by
    have := idx_len g n
    unfold M.idx
    split <;> simp <;> omega
theorem idx_loop {n : Nat} {g : Int → Bool} {B : (List Int × Int × Unit) → ((List Int × Int × Unit) → Prop) → Prop}
    (hb : ∀ (k : Nat) (xs : List Int) (next : (List Int × Int × Unit) → Prop), k < n → xs = M.idx g k → xs.length ≤ k → (g (k : Int) = true → next (xs ++ [(k : Int)], ((k + 1 : Nat) : Int), ())) → (g (k : Int) = false → next (xs, ((k + 1 : Nat) : Int), ())) → B (xs, (k : Int), ()) next)
    (he : ∀ next : (List Int × Int × Unit) → Prop, B (M.idx g n, (n : Int), ()) next) : LoopP B ([], 0, ()) := by
  refine loop_n n (fun k => (M.idx g k, (k : Int), ())) (fun _ => True) rfl trivial (fun k hk _ next hn => ?_) fun _ next => he next
  have hn := hn trivial
  unfold M.idx at hn
  exact hb k _ next hk rfl (idx_len g k) (fun e => by rwa [if_pos e] at hn) fun e => by rwa [if_neg (by rw [e]; simp)] at hn
theorem has_others (l : List Int) (n : Int) : decide ((((M.others l n).length : Nat) : Int) < ((l.length : Nat) : Int)) = M.has l n := by
  have key : ∀ l : List Int, (M.others l n).length ≤ l.length ∧ ((M.others l n).length < l.length ↔ M.has l n = true) := by
    intro l
    induction l with
    | nil => simp [M.others, M.has]
    | cons x l ih =>
      obtain ⟨h1, h2⟩ := ih
      unfold M.others M.has at *
      by_cases e : x = n
      · subst e; simp; omega
      · have e1 : (x != n) = true := by simpa using e
        have e2 : (n == x) = false := by simpa using fun h => e h.symm
        rw [List.filter_cons_of_pos (p := fun x => x != n) e1, List.any_cons, e2, Bool.false_or]
        exact ⟨by simp; exact h1, by simp⟩
  have := (key l).2
  rw [Bool.eq_iff_iff]
  simp only [decide_eq_true_eq]
  rw [← this]; omega
/-! the graph -/
theorem nodeOk {p : List D.Ins} (hp : M.programOk p = true) {k : Int} (h0 : 0 ≤ k) (h1 : k < ((p.length : Nat) : Int)) : M.insOk (rd p k) p.length = true := by
  simp only [M.programOk, Bool.and_eq_true, decide_eq_true_eq, List.all_eq_true] at hp
  exact hp.2 _ (rd_of h0 h1)
theorem progLen {p : List D.Ins} (hp : M.programOk p = true) : p.length ≤ 32 := by
  simp only [M.programOk, Bool.and_eq_true, decide_eq_true_eq] at hp
  exact hp.1
theorem target_in {i : D.Ins} {n : Int} (h : M.insOk i n = true) (e : i.Op = 10 ∨ i.Op = 11) : 0 ≤ i.B ∧ i.B ≤ n := by
  simp only [M.insOk, Bool.and_eq_true] at h
  have h := h.2
  rcases e with e | e
  · rw [if_neg (by omega), if_neg (by omega), if_neg (by omega), if_neg (by omega), if_pos e] at h
    simp only [Bool.and_eq_true, M.isIn, decide_eq_true_eq] at h
    exact h.2.1
  · rw [if_neg (by omega), if_neg (by omega), if_neg (by omega), if_neg (by omega), if_neg (by omega), if_pos e] at h
    simp only [Bool.and_eq_true, M.isIn, decide_eq_true_eq] at h
    exact h.2.1
theorem putTwo_mem {a b x : Int} : x ∈ M.putTwo a b ↔ x = a ∨ x = b := by
  unfold M.putTwo
  split
  · simp [or_comm]
  split
  · rename_i h1 h2; subst h2; simp
  · simp
theorem putTwo_len (a b : Int) : (M.putTwo a b).length ≤ 2 := by
  unfold M.putTwo
  (repeat' split) <;> simp
theorem next_ok {p : List D.Ins} {k : Int} (h : M.Node p k) : (∀ x ∈ M.nextOf p k, M.nodeIn p x) ∧ (M.nextOf p k).length ≤ 2 := by
  obtain ⟨hp, h0, h1⟩ := h
  unfold M.nextOf
  split
  · exact ⟨fun x hx => absurd hx List.not_mem_nil, by simp⟩
  rename_i hne
  have hlt : k < ((p.length : Nat) : Int) := by omega
  have hi := nodeOk hp h0 hlt
  split
  · exact ⟨fun x hx => by obtain rfl := List.mem_singleton.1 hx; exact ⟨by omega, by omega⟩, by simp⟩
  split
  · rename_i e
    exact ⟨fun x hx => by obtain rfl := List.mem_singleton.1 hx; exact target_in hi (.inr e), by simp⟩
  split
  · rename_i e
    refine ⟨fun x hx => ?_, putTwo_len _ _⟩
    rcases putTwo_mem.1 hx with rfl | rfl
    · exact ⟨by omega, by omega⟩
    · exact target_in hi (.inl e)
  · exact ⟨fun x hx => by obtain rfl := List.mem_singleton.1 hx; exact ⟨by omega, by omega⟩, by simp⟩
/-! the search -/
def falses (l : List Bool) : Nat := l.count false
theorem falses_set : ∀ {l : List Bool} {k : Nat}, k < l.length → l[k]? = some false → falses (l.set k true) + 1 = falses l
  | [], k, hk, _ => absurd hk (by simp)
  | b :: l, 0, hk, h => by
    simp at h; subst h
    simp [falses]
  | b :: l, k + 1, hk, h => by
    have := falses_set (l := l) (k := k) (by simpa using hk) (by simpa using h)
    unfold falses at *
    simp only [List.set_cons_succ, List.count_cons]
    omega
theorem rdB {l : List Bool} {k : Int} (h0 : 0 ≤ k) (h1 : k < ((l.length : Nat) : Int)) : l[k.toNat]? = some (rd l k) := by
  have : k.toNat < l.length := by omega
  simp [rd, List.getD_eq_getElem?_getD, this]
theorem rd_setB {l : List Bool} {k j : Int} (h0 : 0 ≤ k) (h1 : k < ((l.length : Nat) : Int)) (hj : 0 ≤ j) : rd (l.set k.toNat true) j = if j = k then true else rd l j := by
  unfold rd
  rw [List.getD_eq_getElem?_getD, List.getD_eq_getElem?_getD, List.getElem?_set]
  by_cases e : j = k
  · subst e
    have : j.toNat < l.length := by omega
    simp [this]
  · have : ¬ k.toNat = j.toNat := by omega
    rw [if_neg this, if_neg e]
theorem bfs_len (p : List D.Ins) (wo : Int) : ∀ (f : Nat) (work : List Int) (seen : List Bool), (M.bfs p wo f work seen).length = seen.length
  | 0, _, _ => rfl
  | f + 1, [], _ => rfl
  | f + 1, k :: work, seen => by
    unfold M.bfs
    split
    · exact bfs_len p wo f _ _
    · rw [bfs_len p wo f]; simp
theorem bfs_mono (p : List D.Ins) (wo : Int) {j : Int} (hj : 0 ≤ j) : ∀ (f : Nat) (work : List Int) (seen : List Bool), (∀ x ∈ work, M.Node p x) → seen.length = p.length + 1 → rd seen j = true → rd (M.bfs p wo f work seen) j = true
  | 0, _, _, _, _, h => h
  | f + 1, [], _, _, _, h => h
  | f + 1, k :: work, seen, hw, hl, h => by
    have hk := hw k List.mem_cons_self
    have hr : ∀ x ∈ work, M.Node p x := fun x hx => hw x (List.mem_cons_of_mem _ hx)
    unfold M.bfs
    split
    · exact bfs_mono p wo hj f _ _ hr hl h
    · refine bfs_mono p wo hj f _ _ (fun x hx => (List.mem_append.1 hx).elim (hr x) fun h' => ⟨hk.1, (next_ok hk).1 x h'⟩) (by simpa using hl) ?_
      have hk2 := hk.2
      unfold M.nodeIn at hk2
      rw [rd_setB hk2.1 (by omega) hj]
      split
      · rfl
      · exact h
/-- a loop that searches -/
theorem bfs_loop {p : List D.Ins} {wo : Int} {I : List Bool → Prop} {B : (List Int × List Bool × Unit) → ((List Int × List Bool × Unit) → Prop) → Prop} {work0 : List Int} {seen0 R : List Bool} {fuel : Nat}
    (hs : M.Starts p work0) (hl0 : seen0.length = p.length + 1) (hI0 : I seen0) (hR : M.bfs p wo fuel work0 seen0 = R) (hf : 3 * falses seen0 + work0.length ≤ fuel)
    (hb0 : ∀ (k : Int) (rest : List Int) (seen : List Bool) (next : (List Int × List Bool × Unit) → Prop), M.Node p k → seen.length = p.length + 1 → I seen → (k = wo ∨ rd seen k = true) → next (rest, seen, ()) → B (k :: rest, seen, ()) next)
    (hb1 : ∀ (k : Int) (rest : List Int) (seen : List Bool) (next : (List Int × List Bool × Unit) → Prop), M.Node p k → seen.length = p.length + 1 → I seen → ¬ k = wo → rd seen k = false → rd R k = true → rest.length + (M.nextOf p k).length ≤ 17179869184 → (I (seen.set k.toNat true) → next (rest ++ M.nextOf p k, seen.set k.toNat true, ())) → B (k :: rest, seen, ()) next)
    (he : ∀ (next : (List Int × List Bool × Unit) → Prop), I R → B ([], R, ()) next) : LoopP B (work0, seen0, ()) := by
  obtain ⟨hp, hw, h4⟩ := hs
  have h32 := progLen hp
  have hc0 : falses seen0 ≤ p.length + 1 := by unfold falses; rw [← hl0]; exact List.count_le_length
  refine ⟨fun m z => ∃ work seen f, z = (work, seen, ()) ∧ m = 3 * falses seen + work.length ∧ m ≤ f ∧ M.bfs p wo f work seen = R ∧ seen.length = p.length + 1 ∧ (∀ x ∈ work, M.Node p x) ∧ m ≤ 200 ∧ I seen,
    ⟨_, work0, seen0, fuel, rfl, rfl, hf, hR, hl0, fun x hx => ⟨hp, hw x hx⟩, by omega, hI0⟩, ?_⟩
  rintro m z ⟨work, seen, f, rfl, rfl, hmf, hbf, hl, hwk, hm, hI⟩
  cases work with
  | nil =>
    have : seen = R := by
      cases f with
      | zero => exact hbf
      | succ f => exact hbf
    subst this
    exact he _ hI
  | cons k rest =>
    have hk := hwk k List.mem_cons_self
    have hr : ∀ x ∈ rest, M.Node p x := fun x hx => hwk x (List.mem_cons_of_mem _ hx)
    cases f with
    | zero => simp at hmf
    | succ f =>
      by_cases hc : k = wo ∨ rd seen k = true
      · refine hb0 k rest seen _ hk hl hI hc ⟨_, ?_, rest, seen, f, rfl, rfl, ?_, ?_, hl, hr, ?_, hI⟩
        · simp
        · simp at hmf; omega
        · rw [M.bfs, if_pos hc] at hbf; exact hbf
        · simp at hm; omega
      · have h1 : ¬ k = wo := fun e => hc (.inl e)
        have h2 : rd seen k = false := by simpa using fun e => hc (.inr e)
        have hk2 := hk.2
        unfold M.nodeIn at hk2
        have hn := next_ok hk
        have hfs := falses_set (l := seen) (k := k.toNat) (by omega) (by rw [rdB hk2.1 (by omega), h2])
        rw [M.bfs, if_neg hc] at hbf
        have hw' : ∀ x ∈ rest ++ M.nextOf p k, M.Node p x := fun x hx => (List.mem_append.1 hx).elim (hr x) fun h' => ⟨hk.1, hn.1 x h'⟩
        have hR' : rd R k = true := by
          rw [← hbf]
          refine bfs_mono p wo hk2.1 f _ _ hw' (by simpa using hl) ?_
          rw [rd_setB hk2.1 (by omega) hk2.1, if_pos rfl]
        refine hb1 k rest seen _ hk hl hI h1 h2 hR' ?_ fun hI' => ⟨_, ?_, _, _, f, rfl, rfl, ?_, hbf, by simpa using hl, hw', ?_, hI'⟩
        · simp at hm; omega
        · simp only [List.length_append, List.length_cons]; omega
        · simp only [List.length_append, List.length_cons] at *; omega
        · simp only [List.length_append, List.length_cons] at *; omega
theorem seen0_len (n : Nat) : (List.replicate (n + 1) false).length = n + 1 := by simp
theorem seen0_falses (n : Nat) : falses (List.replicate (n + 1) false) = n + 1 := by simp [falses]
theorem seen0_rd (n : Nat) (k : Int) : rd (List.replicate (n + 1) false) k = false := by
  unfold rd
  rw [List.getD_eq_getElem?_getD, List.getElem?_replicate]
  split <;> rfl
/-! what the search finds -/
inductive Rch (p : List D.Ins) (wo : Int) (frm : List Int) : Int → Prop
  | base {s : Int} : s ∈ frm → s ≠ wo → Rch p wo frm s
  | step {k s : Int} : Rch p wo frm k → s ∈ M.nextOf p k → s ≠ wo → Rch p wo frm s
theorem bfs_sound {p : List D.Ins} {wo : Int} {frm : List Int} : ∀ (f : Nat) (work : List Int) (seen : List Bool), (∀ x ∈ work, M.Node p x) → seen.length = p.length + 1 → (∀ x ∈ work, x = wo ∨ Rch p wo frm x) → (∀ x, 0 ≤ x → rd seen x = true → Rch p wo frm x) →
    ∀ x, 0 ≤ x → rd (M.bfs p wo f work seen) x = true → Rch p wo frm x
  | 0, _, _, _, _, _, h => h
  | f + 1, [], _, _, _, _, h => h
  | f + 1, k :: work, seen, hw, hl, hwr, h => by
    have hk := hw k List.mem_cons_self
    have hk2 := hk.2
    unfold M.nodeIn at hk2
    have hr : ∀ x ∈ work, M.Node p x := fun x hx => hw x (List.mem_cons_of_mem _ hx)
    have hwr' : ∀ x ∈ work, x = wo ∨ Rch p wo frm x := fun x hx => hwr x (List.mem_cons_of_mem _ hx)
    unfold M.bfs
    split
    · exact bfs_sound f work seen hr hl hwr' h
    · rename_i hc
      have hkR : Rch p wo frm k := (hwr k List.mem_cons_self).resolve_left fun e => hc (.inl e)
      refine bfs_sound f _ _ (fun x hx => (List.mem_append.1 hx).elim (hr x) fun h' => ⟨hk.1, (next_ok hk).1 x h'⟩) (by simpa using hl) (fun x hx => (List.mem_append.1 hx).elim (hwr' x) fun h' => ?_) fun x hx hs => ?_
      · by_cases e : x = wo
        · exact .inl e
        · exact .inr (.step hkR h' e)
      · rw [rd_setB hk2.1 (by omega) hx] at hs
        split at hs
        · rename_i e; rw [e]; exact hkR
        · exact h x hx hs
def Closed (p : List D.Ins) (wo : Int) (frm work : List Int) (seen : List Bool) : Prop :=
  (∀ s ∈ frm, s ≠ wo → rd seen s = true ∨ s ∈ work) ∧ ∀ k, M.nodeIn p k → rd seen k = true → ∀ s ∈ M.nextOf p k, s ≠ wo → rd seen s = true ∨ s ∈ work
theorem bfs_closed {p : List D.Ins} {wo : Int} {frm : List Int} : ∀ (f : Nat) (work : List Int) (seen : List Bool), (∀ x ∈ work, M.Node p x) → (∀ x ∈ frm, M.nodeIn p x) → seen.length = p.length + 1 → 3 * falses seen + work.length ≤ f → Closed p wo frm work seen → Closed p wo frm [] (M.bfs p wo f work seen)
  | 0, work, seen, _, _, _, hf, hc => by
    have : work = [] := List.eq_nil_of_length_eq_zero (by omega)
    subst this; exact hc
  | f + 1, [], seen, _, _, _, _, hc => hc
  | f + 1, k :: work, seen, hw, hfr, hl, hf, hc => by
    have hk := hw k List.mem_cons_self
    have hk2 := hk.2
    have hk3 := hk.2
    unfold M.nodeIn at hk2
    have hr : ∀ x ∈ work, M.Node p x := fun x hx => hw x (List.mem_cons_of_mem _ hx)
    simp only [List.length_cons] at hf
    obtain ⟨c1, c2⟩ := hc
    unfold M.bfs
    split
    · rename_i hd
      have drop : ∀ s, s ≠ wo → (rd seen s = true ∨ s ∈ k :: work) → rd seen s = true ∨ s ∈ work := by
        intro s hs h
        rcases h with h | h
        · exact .inl h
        rcases List.mem_cons.1 h with rfl | h
        · exact .inl (hd.resolve_left hs)
        · exact .inr h
      exact bfs_closed f work seen hr hfr hl (by omega) ⟨fun s hs hne => drop s hne (c1 s hs hne), fun j hj hsj s hs hne => drop s hne (c2 j hj hsj s hs hne)⟩
    · rename_i hd
      have h2 : rd seen k = false := by simpa using fun e => hd (.inr e)
      have hfs := falses_set (l := seen) (k := k.toNat) (by omega) (by rw [rdB hk2.1 (by omega), h2])
      have hn := next_ok hk
      have up : ∀ s, M.nodeIn p s → (rd seen s = true ∨ s ∈ k :: work) → rd (seen.set k.toNat true) s = true ∨ s ∈ work ++ M.nextOf p k := by
        intro s hs h
        have hs2 := hs
        unfold M.nodeIn at hs2
        rw [rd_setB hk2.1 (by omega) hs2.1]
        rcases h with h | h
        · left; split; rfl; exact h
        rcases List.mem_cons.1 h with rfl | h
        · left; rw [if_pos rfl]
        · exact .inr (List.mem_append_left _ h)
      refine bfs_closed f _ _ (fun x hx => (List.mem_append.1 hx).elim (hr x) fun h' => ⟨hk.1, hn.1 x h'⟩) hfr (by simpa using hl) (by simp only [List.length_append]; omega)
        ⟨fun s hs hne => up s (hfr s hs) (c1 s hs hne), fun j hj hsj s hs hne => ?_⟩
      have hj2 := hj
      unfold M.nodeIn at hj2
      rw [rd_setB hk2.1 (by omega) hj2.1] at hsj
      split at hsj
      · rename_i e; subst e
        exact .inr (List.mem_append_right _ hs)
      · exact up s ((next_ok ⟨hk.1, hj⟩).1 s hs) (c2 j hj hsj s hs hne)
theorem rch_node {p : List D.Ins} {wo : Int} {frm : List Int} (hp : M.programOk p = true) (hf : ∀ x ∈ frm, M.nodeIn p x) {x : Int} (h : Rch p wo frm x) : M.nodeIn p x := by
  induction h with
  | base h _ => exact hf _ h
  | step _ hs _ ih => exact (next_ok ⟨hp, ih⟩).1 _ hs
theorem reached_iff {p : List D.Ins} {wo : Int} {frm : List Int} (hp : M.programOk p = true) (hf : ∀ x ∈ frm, M.nodeIn p x) {x : Int} (hx : M.nodeIn p x) : rd (M.reached p frm wo) x = true ↔ Rch p wo frm x := by
  constructor
  · intro h
    refine bfs_sound (frm := frm) _ frm _ (fun y hy => ⟨hp, hf y hy⟩) (seen0_len _) (fun y hy => ?_) (fun y _ hs => by rw [seen0_rd] at hs; cases hs) x hx.1 h
    by_cases e : y = wo
    · exact .inl e
    · exact .inr (.base hy e)
  · intro h
    have hc := bfs_closed (p := p) (wo := wo) (frm := frm) (3 * (p.length + 1) + frm.length) frm (List.replicate (p.length + 1) false) (fun y hy => ⟨hp, hf y hy⟩) hf (seen0_len _) (by rw [seen0_falses]; omega)
      ⟨fun s hs _ => .inr hs, fun k _ hs => by rw [seen0_rd] at hs; cases hs⟩
    clear hx
    induction h with
    | base h hne => exact (hc.1 _ h hne).resolve_right List.not_mem_nil
    | step hk hs hne ih => exact (hc.2 _ (rch_node hp hf hk) ih _ hs hne).resolve_right List.not_mem_nil
theorem reached_len (p : List D.Ins) (frm : List Int) (wo : Int) : (M.reached p frm wo).length = p.length + 1 := by
  unfold M.reached; rw [bfs_len]; simp
/-- what comes after a node that reaches the exit reaches the exit -/
theorem after_exits {p : List D.Ins} {k later : Int} (h : M.Node p k) (hl : M.nodeIn p later) (h1 : M.exitB p k = true) (h2 : M.afterB p k later = true) : M.exitB p later = true := by
  obtain ⟨hp, hk⟩ := h
  have hn : M.nodeIn p ((p.length : Nat) : Int) := ⟨by omega, by omega⟩
  have one : ∀ z, M.nodeIn p z → ∀ x ∈ [z], M.nodeIn p x := fun z hz x hx => by obtain rfl := List.mem_singleton.1 hx; exact hz
  have r1 := (reached_iff hp (one k hk) hn).1 h1
  have r2 : ¬ Rch p later [k] ((p.length : Nat) : Int) := fun hr => by
    have := (reached_iff hp (one k hk) hn).2 hr
    unfold M.afterB at h2
    rw [this] at h2; cases h2
  have hl1 : later ≠ -1 := by have := hl.1; omega
  have key : ∀ x, Rch p (-1) [k] x → Rch p later [k] x ∨ Rch p (-1) [later] x := by
    intro x hx
    induction hx with
    | @base s hs hne =>
      by_cases e : s = later
      · exact .inr (.base (by simp [e]) hne)
      · exact .inl (.base hs e)
    | @step j s _ hs hne ih =>
      rcases ih with ih | ih
      · by_cases e : s = later
        · exact .inr (.base (by simp [e]) hne)
        · exact .inl (.step ih hs e)
      · exact .inr (.step ih hs hne)
  exact (reached_iff hp (one later hl) hn).2 ((key _ r1).resolve_left r2)
/-! the functions of the specification -/
theorem small64 {p : List D.Ins} (h : M.PSmall p) : IntKind.wrap .i64 (((p.length : Nat) : Int) + 1) = ((p.length + 1 : Nat) : Int) := by
  unfold M.PSmall at h
  rw [w64 (by omega) (by omega)]; push_cast; rfl
theorem prog_small {p : List D.Ins} (hp : M.programOk p = true) : M.PSmall p := by have := progLen hp; unfold M.PSmall; omega
theorem small_longP {p : List D.Ins} (h : M.PSmall p) : M.Long p := by unfold M.PSmall at h; unfold M.Long; omega
theorem wp.spec_BranchesOf.math (p : List D.Ins) (h : M.spec_BranchesOf_pre p) : wp.spec_BranchesOf p (fun r => r = M.spec_BranchesOf p) := by
  have hl := small_longP h
  have hs : p.length ≤ 2097152 := h
  refine ⟨hl, fun r hr => ?_⟩
  have hr' : r = M.programOk p := hr
  by_cases hp : M.programOk p = true
  · have hM : M.spec_BranchesOf p = M.idx (M.isBr p) p.length := by simp [M.spec_BranchesOf, M.branches, hp]
    rw [hM]
    refine idx_loop (fun k xs next hk hxs hle h1 h2 => ?_) fun next => bcase_f (by simp) rfl
    rw [hr', hp]
    refine bcase_t (by simp; omega) (bcase_t rfl ⟨by omega, bcase_mk (fun e => ⟨by omega, bcase_mk (fun e2 => ⟨by simp; omega, ?_⟩) fun e2 => ?_⟩) fun e => ?_⟩)
    all_goals have hw : IntKind.wrap .i64 ((k : Int) + 1) = (k : Int) + 1 := w64 (by omega) (by omega)
    all_goals rw [up64 hk (by omega)]
    · rw [hw] at e2
      exact h1 (by simp only [M.isBr, e, Bool.true_and]; exact e2)
    · rw [hw] at e2
      exact h2 (by simp only [M.isBr, e2, Bool.and_false])
    · exact h2 (by simp only [M.isBr, e, Bool.false_and])
  · have hp : M.programOk p = false := by simpa using hp
    have hM : M.spec_BranchesOf p = [] := by simp [M.spec_BranchesOf, M.branches, hp]
    rw [hM, hr', hp]
    refine loop_n 0 (fun _ => ([], 0, ())) (fun _ => True) rfl trivial (fun k hk _ _ _ => absurd hk (by omega)) fun _ next => ?_
    exact bcase_mk (fun _ => bcase_f rfl rfl) fun _ => rfl
theorem filter_take {l : List Int} {g : Int → Bool} {k : Nat} (hk : k < l.length) : (l.take (k + 1)).filter g = if g (rd l (k : Int)) then (l.take k).filter g ++ [rd l (k : Int)] else (l.take k).filter g := by
  rw [List.take_add_one, List.getElem?_eq_getElem hk, rd_nat hk, List.filter_append]
  by_cases e : g l[k] = true
  · simp [e]
  · simp [e]
theorem wp.spec_l08Others.math (l : List Int) (n : Int) (h : M.spec_l08Others_pre l n) : wp.spec_l08Others l n (fun r => r = M.spec_l08Others l n) := by
  have hl : l.length ≤ 17179869183 := h
  refine loop_n l.length (fun k => ((l.take k).filter (fun x => x != n), (k : Int), ())) (fun _ => True) rfl trivial (fun k hk _ next hn => ?_) fun _ next => ?_
  · have hn := hn trivial
    rw [filter_take hk] at hn
    have hle := List.length_filter_le (fun x => x != n) (l.take k)
    have hle2 : (l.take k).length ≤ k := by simp; omega
    refine bcase_t (by simp; omega) ⟨by omega, bcase_mk (fun e => ⟨by omega, ?_, ?_⟩) fun e => ?_⟩
    · simp only [List.length_singleton]; omega
    · rw [if_pos e] at hn; rw [up64 hk (by omega)]; exact hn
    · rw [if_neg (by rw [e]; simp)] at hn; rw [up64 hk (by omega)]; exact hn
  · refine bcase_f (by simp) ?_
    rw [List.take_length]; rfl
theorem wp.spec_l08Has.math (l : List Int) (n : Int) (h : M.spec_l08Has_pre l n) : wp.spec_l08Has l n (fun r => r = M.spec_l08Has l n) := by
  refine ⟨h, fun r hr => ?_⟩
  rw [hr]
  exact has_others l n
theorem wp.spec_l07Ok.math (p : List D.Ins) (k : Int) (h : M.spec_l07Ok_pre p k) : wp.spec_l07Ok p k (fun r => r = M.spec_l07Ok p k) := by
  refine ⟨small_longP h, fun r hr => bcase_mk (fun e r2 hr2 => ?_) fun e => ?_⟩
  all_goals have hr' : r = M.programOk p := hr
  · rw [hr2]; simp [M.spec_l07Ok, M.isNode, ← hr', e, M.spec_l01In]
  · simp [M.spec_l07Ok, M.isNode, ← hr', e]
theorem putAt_le (l : List Int) (n : Int) : ∀ k, M.putAt l n k ≤ k
  | 0 => Nat.le_refl _
  | k + 1 => by
    unfold M.putAt
    split
    · have := putAt_le l n k; omega
    · exact Nat.le_refl _
theorem joinP_of19 {σ : Type} {A : (σ → Prop) → Prop} {B : σ → Prop} (v : σ) (h : B v) (hA : ∀ J : σ → Prop, J v → A J) : JoinP A B := hA B h
theorem wp.spec_l04Put.math (l : List Int) (n : Int) (h : M.spec_l04Put_pre l n) : wp.spec_l04Put l n (fun r => r = M.spec_l04Put l n) := by
  have hl : l.length ≤ 17179869183 := h
  have hle := putAt_le l n l.length
  have wd : ∀ k : Nat, 0 < k → k ≤ l.length → IntKind.wrap .i64 ((k : Int) - 1) = ((k - 1 : Nat) : Int) := fun k h0 hk => by rw [w64 (by omega) (by omega)]; omega
  refine joinP_of19 (((M.putAt l n l.length : Nat) : Int), ()) ?_ fun J hJ => ?_
  · generalize hq : M.putAt l n l.length = q at *
    have hd : ((q : Int)).toNat = q := by simp
    have tail : ¬ (q > 0 ∧ rd l ((q : Int) - 1) = n) → (0 ≤ (q : Int) ∧ (q : Int) ≤ ((l.length : Nat) : Int)) ∧ (([] : List Int).length + (List.take ((q : Int).toNat) l).length ≤ 17179869184) ∧ ((([] : List Int) ++ List.take ((q : Int).toNat) l).length + ([n] : List Int).length ≤ 17179869184) ∧ (0 ≤ (q : Int) ∧ (q : Int) ≤ ((l.length : Nat) : Int)) ∧ (((([] : List Int) ++ List.take ((q : Int).toNat) l) ++ [n]).length + (List.drop ((q : Int).toNat) l).length ≤ 17179869184) ∧ ((([] : List Int) ++ List.take ((q : Int).toNat) l) ++ [n]) ++ List.drop ((q : Int).toNat) l = M.spec_l04Put l n := by
      intro hn
      rw [hd]
      refine ⟨by omega, by simp; omega, by simp; omega, by omega, by simp; omega, ?_⟩
      simp only [M.spec_l04Put, hq]
      rw [if_neg hn]; simp
    show JoinP (σ := Unit) _ _
    refine bcase_mk (fun e => ⟨?_, bcase_mk (fun e2 => ?_) fun e2 => ?_⟩) fun e => ?_
    · have e : q > 0 := by simp at e; omega
      rw [wd q e hle]; omega
    · have e : q > 0 := by simp at e; omega
      rw [wd q e hle] at e2
      have e2 : rd l ((q : Int) - 1) = n := by rw [show (q : Int) - 1 = ((q - 1 : Nat) : Int) by omega]; simpa using e2
      simp only [M.spec_l04Put, hq]
      rw [if_pos ⟨e, e2⟩]
    · have e : q > 0 := by simp at e; omega
      rw [wd q e hle] at e2
      refine tail fun hh => ?_
      rw [show (q : Int) - 1 = ((q - 1 : Nat) : Int) by omega] at hh
      have := hh.2
      simp [this] at e2
    · have e : ¬ q > 0 := by simp at e; omega
      exact tail fun hh => e hh.1
  · refine ⟨fun m z => ∃ k : Nat, z = ((k : Int), ()) ∧ m = k ∧ k ≤ l.length ∧ M.putAt l n k = M.putAt l n l.length, ⟨l.length, l.length, rfl, rfl, Nat.le_refl _, rfl⟩, ?_⟩
    rintro k z ⟨_, rfl, rfl, hk, hput⟩
    refine bcase_mk (fun e => ⟨?_, bcase_mk (fun e2 => ?_) fun e2 => ?_⟩) fun e => ?_
    · have e : k > 0 := by simp at e; omega
      rw [wd k e hk]; omega
    · have e : k > 0 := by simp at e; omega
      rw [wd k e hk] at e2 ⊢
      refine ⟨k - 1, by omega, k - 1, rfl, rfl, by omega, ?_⟩
      rw [← hput]
      obtain ⟨j, rfl⟩ : ∃ j, k = j + 1 := ⟨k - 1, by omega⟩
      rw [M.putAt, if_pos (by simpa using e2)]; rfl
    · have e : k > 0 := by simp at e; omega
      rw [wd k e hk] at e2
      obtain ⟨j, rfl⟩ : ∃ j, k = j + 1 := ⟨k - 1, by omega⟩
      rw [M.putAt, if_neg (by simpa using e2)] at hput
      rw [← hput] at hJ; exact hJ
    · have e : k = 0 := by simp at e; omega
      subst e
      rw [← hput] at hJ; exact hJ
theorem put_one (a b : Int) : M.spec_l04Put [a] b = M.putTwo a b := by
  unfold M.spec_l04Put M.putTwo
  have hq : M.putAt [a] b 1 = if a > b then 0 else 1 := by
    unfold M.putAt
    have : rd [a] ((0 : Nat) : Int) = a := rfl
    rw [this]
    split <;> rfl
  have h1l : ([a] : List Int).length = 1 := rfl
  by_cases h1 : b < a
  · have hq' : M.putAt [a] b ([a] : List Int).length = 0 := by rw [h1l, hq, if_pos h1]
    rw [hq', if_pos h1, if_neg (by omega)]; simp
  · have hq' : M.putAt [a] b ([a] : List Int).length = 1 := by rw [h1l, hq, if_neg h1]
    rw [hq', if_neg h1]
    have : rd [a] (((1 : Nat) : Int) - 1) = a := rfl
    rw [this]
    by_cases h2 : b = a
    · rw [if_pos h2, if_pos ⟨by omega, h2.symm⟩]
    · rw [if_neg h2, if_neg (fun h => h2 h.2.symm)]; simp
theorem wp.spec_l07Next.math (p : List D.Ins) (k : Int) (h : M.spec_l07Next_pre p k) : wp.spec_l07Next p k (fun r => r = M.spec_l07Next p k) := by
  obtain ⟨hp, h0, h1⟩ := h
  have h32 := progLen hp
  have hw : IntKind.wrap .i64 (k + 1) = k + 1 := w64 (by omega) (by omega)
  unfold wp.spec_l07Next
  rw [hw]
  refine bcase_mk (fun e => ?_) fun e => ?_
  · have e : k = p.length := by simpa using e
    simp [M.spec_l07Next, M.nextOf, e]
  have e : ¬ k = p.length := by simpa using e
  refine ⟨by omega, bcase_mk (fun e1 => ?_) fun e1 => bcase_mk (fun e2 => ⟨by omega, ?_⟩) fun e2 => bcase_mk (fun e3 => ⟨by omega, by show (1 : Nat) ≤ 17179869183; omega, fun r hr => ?_⟩) fun e3 => ?_⟩
  all_goals simp only [M.spec_l07Next, M.nextOf]
  all_goals rw [if_neg e]
  · rw [if_pos (by simpa using e1)]
  · rw [if_neg (by simpa using e1), if_pos (by simpa using e2)]
  · rw [if_neg (by simpa using e1), if_neg (by simpa using e2), if_pos (by simpa using e3), hr, put_one]
  · rw [if_neg (by simpa using e1), if_neg (by simpa using e2), if_neg (by simpa using e3)]
theorem cons_facts {k : Int} {rest : List Int} : rd (k :: rest) 0 = k ∧ List.drop ((1 : Int).toNat) (k :: rest) = rest ∧ (0 ≤ (0 : Int) ∧ (0 : Int) < (((k :: rest).length : Nat) : Int)) ∧ (0 ≤ (1 : Int) ∧ (1 : Int) ≤ (((k :: rest).length : Nat) : Int)) ∧ decide ((((k :: rest).length : Nat) : Int) > 0) = true := by
  refine ⟨rfl, rfl, by simp only [List.length_cons]; omega, by simp only [List.length_cons]; omega, ?_⟩
  simp only [List.length_cons, decide_eq_true_eq]; omega
theorem repl_eq {p : List D.Ins} (hp : M.programOk p = true) : List.replicate ((IntKind.wrap .i64 (((p.length : Nat) : Int) + 1)).toNat) (default : Bool) = List.replicate (p.length + 1) false := by
  rw [small64 (prog_small hp)]; rfl
theorem node_seen {p : List D.Ins} {k : Int} {seen : List Bool} (h : M.Node p k) (hl : seen.length = p.length + 1) : 0 ≤ k ∧ k < ((seen.length : Nat) : Int) := by
  obtain ⟨_, h0, h1⟩ := h
  omega
theorem wp.spec_l07Reach.math (p : List D.Ins) (l : List Int) (h : M.spec_l07Reach_pre p l) : wp.spec_l07Reach p l (fun r => r = M.spec_l07Reach p l) := by
  have hp := h.1
  have h32 := progLen hp
  have h4 := h.2.2
  unfold wp.spec_l07Reach
  rw [repl_eq hp, small64 (prog_small hp)]
  refine ⟨by omega, by simp; omega, ?_⟩
  rw [List.nil_append]
  refine bfs_loop (wo := -1) (I := fun _ => True) h (seen0_len _) trivial (R := M.spec_l07Reach p l) rfl (by rw [seen0_falses]; omega) (fun k rest seen next hk hl _ hc hn => ?_) (fun k rest seen next hk hl _ h1 h2 _ h5 hn => ?_) fun next _ => bcase_f rfl rfl
  · obtain ⟨f1, f2, f3, f4, f5⟩ := cons_facts (k := k) (rest := rest)
    refine bcase_t f5 ⟨f3, f4, ?_⟩
    rw [f1, f2]
    have hk1 : ¬ k = -1 := by have := hk.2.1; omega
    exact ⟨node_seen hk hl, bcase_t (hc.resolve_left hk1) hn⟩
  · obtain ⟨f1, f2, f3, f4, f5⟩ := cons_facts (k := k) (rest := rest)
    refine bcase_t f5 ⟨f3, f4, ?_⟩
    rw [f1, f2]
    refine ⟨node_seen hk hl, bcase_f h2 ⟨node_seen hk hl, hk, fun r hr => ?_⟩⟩
    have hr' : r = M.nextOf p k := hr
    rw [hr']
    exact ⟨h5, hn trivial⟩
theorem start1 {p : List D.Ins} {k : Int} (h : M.Node p k) : M.Starts p [k] := ⟨h.1, fun x hx => by obtain rfl := List.mem_singleton.1 hx; exact h.2, by simp⟩
theorem isNode_iff {p : List D.Ins} {k : Int} : M.isNode p k = true ↔ M.Node p k := by
  simp only [M.isNode, M.Node, M.nodeIn, Bool.and_eq_true, M.isIn, decide_eq_true_eq]
theorem wp.spec_ReachesExit.math (p : List D.Ins) (k : Int) (h : M.spec_ReachesExit_pre p k) : wp.spec_ReachesExit p k (fun r => r = M.spec_ReachesExit p k) := by
  refine ⟨h, fun r hr => bcase_mk (fun e => ?_) fun e => ?_⟩
  all_goals have hr' : r = M.isNode p k := hr
  · have hN := isNode_iff.1 (hr'.symm.trans e)
    refine ⟨start1 hN, fun r2 hr2 => ⟨?_, ?_⟩⟩
    · rw [hr2]; show _ ∧ _ < (((M.reached p [k] (-1)).length : Nat) : Int); rw [reached_len]; omega
    · rw [hr2]; simp only [M.spec_ReachesExit, ← hr', e, Bool.true_and]; rfl
  · simp [M.spec_ReachesExit, ← hr', e]
theorem wp.spec_l08After.math (p : List D.Ins) (k later : Int) (h : M.spec_l08After_pre p k later) : wp.spec_l08After p k later (fun r => r = M.spec_l08After p k later) := by
  have hp := h.1
  have h32 := progLen hp
  have hs := start1 h
  have hn : M.nodeIn p ((p.length : Nat) : Int) := ⟨by omega, by omega⟩
  refine bcase_mk (fun e => ?_) fun e => ?_
  · have e : k = later := by simpa using e
    show true = M.afterB p k later
    have : rd (M.reached p [k] later) ((p.length : Nat) : Int) = false := by
      refine Bool.eq_false_iff.2 fun hr => ?_
      have hr := (reached_iff hp hs.2.1 hn).1 hr
      have none : ∀ x, ¬ Rch p later [k] x := by
        intro x hx
        induction hx with
        | base h1 h2 => obtain rfl := List.mem_singleton.1 h1; exact h2 e
        | step _ _ _ ih => exact ih
      exact none _ hr
    unfold M.afterB; rw [this]; rfl
  rw [repl_eq hp, small64 (prog_small hp)]
  refine ⟨by omega, ?_⟩
  refine bfs_loop (wo := later) (I := fun seen => rd seen ((p.length : Nat) : Int) = false) hs (seen0_len _) (seen0_rd _ _) (R := M.reached p [k] later) rfl (by rw [seen0_falses]; simp) (fun j rest seen next hk hl _ hc hn => ?_) (fun j rest seen next hk hl hI h1 h2 h3 h5 hn => ?_) fun next hI => bcase_f rfl ?_
  · obtain ⟨f1, f2, f3, f4, f5⟩ := cons_facts (k := j) (rest := rest)
    refine bcase_t f5 ⟨f3, f4, ?_⟩
    rw [f1, f2]
    refine ⟨node_seen hk hl, bcase_mk (fun _ => hn) fun e1 => bcase_t ?_ hn⟩
    rcases hc with hc | hc
    · simpa using hc
    · rw [hc] at e1; cases e1
  · obtain ⟨f1, f2, f3, f4, f5⟩ := cons_facts (k := j) (rest := rest)
    refine bcase_t f5 ⟨f3, f4, ?_⟩
    rw [f1, f2]
    refine ⟨node_seen hk hl, bcase_f h2 (bcase_f (by simpa using h1) (bcase_mk (fun e1 => ?_) fun e1 => ⟨node_seen hk hl, hk, fun r hr => ?_⟩))⟩
    · have e1 : j = ((p.length : Nat) : Int) := by simpa using e1
      show false = M.afterB p k later
      unfold M.afterB
      rw [← e1, h3]; rfl
    · have e1 : ¬ j = ((p.length : Nat) : Int) := by simpa using e1
      have hr' : r = M.nextOf p j := hr
      rw [hr']
      refine ⟨h5, hn ?_⟩
      have hj := hk.2
      unfold M.nodeIn at hj
      rw [rd_setB hj.1 (by omega) (by omega), if_neg (fun e => e1 e.symm)]
      exact hI
  · show true = M.afterB p k later
    unfold M.afterB; rw [hI]; rfl
theorem wp.spec_AftersOf.math (p : List D.Ins) (k : Int) (h : M.spec_AftersOf_pre p k) : wp.spec_AftersOf p k (fun r => r = M.spec_AftersOf p k) := by
  refine ⟨h, fun r hr => bcase_mk (fun e => ?_) fun e => ?_⟩
  · have := nt e (show r = (M.isNode p k && M.exitB p k) from hr)
    simp [M.spec_AftersOf, M.aftersOf, this]
  · have he := nf e (show r = (M.isNode p k && M.exitB p k) from hr)
    have hN : M.Node p k := isNode_iff.1 (by simp only [Bool.and_eq_true] at he; exact he.1)
    have h32 := progLen hN.1
    have hM : M.spec_AftersOf p k = M.idx (M.afterB p k) (p.length + 1) := by simp only [M.spec_AftersOf, M.aftersOf, he, if_true]
    rw [hM]
    refine idx_loop (fun j xs next hj hxs hle h1 h2 => ?_) fun next => bcase_f (by simp; omega) rfl
    refine bcase_t (by simp; omega) ⟨hN, fun r2 hr2 => bcase_mk (fun e2 => ⟨by simp; omega, ?_⟩) fun e2 => ?_⟩
    · rw [up64 (n := p.length + 1) hj (by omega)]; exact h1 ((show r2 = M.afterB p k (j : Int) from hr2).symm.trans e2)
    · rw [up64 (n := p.length + 1) hj (by omega)]; exact h2 ((show r2 = M.afterB p k (j : Int) from hr2).symm.trans e2)
theorem firstS_from (p : List D.Ins) (all l : List Int) (k : Nat) (hk : k < l.length) : M.firstS p all (l.drop k) = if all.all (M.afterB p (rd l (k : Int))) then rd l (k : Int) else M.firstS p all (l.drop (k + 1)) := by
  rw [List.drop_eq_getElem_cons hk, rd_nat hk]; rfl
theorem wp.spec_l08First.math (p : List D.Ins) (l : List Int) (h : M.spec_l08First_pre p l) : wp.spec_l08First p l (fun r => r = M.spec_l08First p l) := by
  obtain ⟨h1, h2⟩ := h
  have hl : l.length ≤ 17179869183 := h1
  refine loop_n l.length (fun k => ((k : Int), ())) (fun k => M.firstS p l l = M.firstS p l (l.drop k)) rfl rfl (fun k hk hF next hn => ?_) fun hF next => bcase_f (by simp) ?_
  · rw [firstS_from p l l k hk] at hF
    refine bcase_t (by simp; omega) ?_
    have hN := h2 _ (rd_mem hk)
    refine loop_n l.length (fun j => ((l.take j).all (M.afterB p (rd l (k : Int))), (j : Int), ())) (fun _ => True) rfl trivial (fun j hj _ next2 hn2 => ?_) fun _ next2 => ?_
    · have hn2 := hn2 trivial
      have ht : (l.take (j + 1)).all (M.afterB p (rd l (k : Int))) = ((l.take j).all (M.afterB p (rd l (k : Int))) && M.afterB p (rd l (k : Int)) (rd l (j : Int))) := by
        rw [List.take_add_one, List.getElem?_eq_getElem hj, rd_nat hj, List.all_append]; simp
      rw [ht] at hn2
      refine bcase_t (by simp; omega) (bcase_mk (fun e => ⟨by omega, by omega, hN, fun r hr => ?_⟩) fun e => ?_)
      · rw [e, Bool.true_and] at hn2
        rw [hr, up64 hj (by omega)]; exact hn2
      · rw [e, Bool.false_and] at hn2
        rw [up64 hj (by omega)]; exact hn2
    · refine bcase_f (by simp) ?_
      rw [List.take_length]
      refine bcase_mk (fun e => ⟨by omega, ?_⟩) fun e => ?_
      · rw [if_pos e] at hF; exact hF.symm
      · rw [if_neg (by rw [e]; simp)] at hF
        rw [up64 hk (by omega)]; exact hn hF
  · rw [List.drop_length] at hF; exact hF.symm
theorem afters_nodes {p : List D.Ins} {k x : Int} (h : x ∈ M.others (M.aftersOf p k) k) : M.Node p x ∧ M.Node p k ∧ M.exitB p k = true ∧ M.afterB p k x = true := by
  have h := (List.mem_filter.1 h).1
  unfold M.aftersOf at h
  split at h
  · rename_i e
    simp only [Bool.and_eq_true] at e
    have hN := isNode_iff.1 e.1
    obtain ⟨j, hj, rfl, hg⟩ := mem_idx.1 h
    exact ⟨⟨hN.1, by omega, by omega⟩, hN, e.2, hg⟩
  · exact absurd h List.not_mem_nil
theorem afters_len (p : List D.Ins) (k : Int) : (M.aftersOf p k).length ≤ p.length + 1 := by
  unfold M.aftersOf
  split
  · exact idx_len _ _
  · simp
theorem afters_ok {p : List D.Ins} (hp : M.PSmall p) (k : Int) : M.Nodes p (M.others (M.aftersOf p k) k) := by
  have h1 := afters_len p k
  have h2 := List.length_filter_le (fun x => x != k) (M.aftersOf p k)
  unfold M.PSmall at hp
  refine ⟨?_, fun x hx => (afters_nodes hx).1⟩
  show (M.others (M.aftersOf p k) k).length ≤ 17179869183
  unfold M.others; omega
theorem wp.spec_FirstAfter.math (p : List D.Ins) (k : Int) (h : M.spec_FirstAfter_pre p k) : wp.spec_FirstAfter p k (fun r => r = M.spec_FirstAfter p k) := by
  have h1 := afters_len p k
  have hs : p.length ≤ 2097152 := h
  refine ⟨h, fun r hr => ⟨?_, fun r2 hr2 => ⟨?_, fun r3 hr3 => ?_⟩⟩⟩
  · rw [hr]; show (M.aftersOf p k).length ≤ 17179869183; omega
  · rw [hr2, hr]; exact afters_ok h k
  · rw [hr3, hr2, hr]; rfl
theorem br_in {p : List D.Ins} {b : Int} (h : M.Branch p b) : M.Node p (b + 1) ∧ M.Node p (rd p b).B ∧ M.Node p b ∧ b + 1 < 9223372036854775807 := by
  obtain ⟨hp, h0, h1, hb⟩ := h
  have h32 := progLen hp
  simp only [M.isBr, Bool.and_eq_true, beq_iff_eq] at hb
  have ht := target_in (nodeOk hp h0 h1) (.inl hb.1)
  exact ⟨⟨hp, by omega, by omega⟩, ⟨hp, ht⟩, ⟨hp, by omega, by omega⟩, by omega⟩
theorem wp.spec_l09Join.math (p : List D.Ins) (b : Int) (h : M.spec_l09Join_pre p b) : wp.spec_l09Join p b (fun r => r = M.spec_l09Join p b) := by
  obtain ⟨n1, n2, n3, n4⟩ := br_in h
  have hs := prog_small h.1
  have hw : IntKind.wrap .i64 (b + 1) = b + 1 := w64 (by have := h.2.1; omega) (by omega)
  have hb := h.2
  unfold wp.spec_l09Join
  rw [hw]
  have m1 : M.spec_ReachesExit p (b + 1) = M.exitB p (b + 1) := by simp [M.spec_ReachesExit, isNode_iff.2 n1]
  have m2 : M.spec_ReachesExit p (rd p b).B = M.exitB p (rd p b).B := by simp [M.spec_ReachesExit, isNode_iff.2 n2]
  refine ⟨hs, fun r hr => bcase_mk (fun e => ?_) fun e => ⟨⟨hb.1, hb.2.1⟩, hs, fun r2 hr2 => bcase_mk (fun e2 => ?_) fun e2 => ⟨hs, fun r3 hr3 => ?_⟩⟩⟩
  all_goals rw [m1] at hr
  · simp [M.spec_l09Join, M.joinB, nt e hr]
  · rw [m2] at hr2
    simp [M.spec_l09Join, M.joinB, nt e2 hr2]
  · rw [m2] at hr2
    rw [hr3]; simp [M.spec_l09Join, M.joinB, nf e hr, nf e2 hr2, M.spec_FirstAfter]
theorem marked_wp {seen : List Bool} (h : M.Row34 seen) {Q : List Int → Prop} (hQ : Q (M.marked seen)) : LoopP (σ := (List Int) × Int × Unit) (fun (p54 : (List Int) × Int × Unit) next31 => match p54 with | (xs24, i27, _) => bcase (decide (i27 < ((seen.length : Nat) : Int))) (((0 ≤ i27 ∧ i27 < ((seen.length : Nat) : Int)) ∧ bcase (rd seen i27) (((xs24.length + ([i27] : List Int).length ≤ 17179869184) ∧ next31 ((xs24 ++ ([i27] : List Int)), (IntKind.wrap .i64 (i27 + 1)), ()))) (next31 (xs24, (IntKind.wrap .i64 (i27 + 1)), ())))) (Q xs24)) (([] : List Int), 0, ()) := by
  have hl : seen.length ≤ 17179869183 := h
  refine idx_loop (n := seen.length) (g := fun k => rd seen k) (fun j xs next hj hxs hle h1 h2 => ?_) fun next => bcase_f (by simp) hQ
  refine bcase_t (by simp; omega) ⟨by omega, bcase_mk (fun e => ⟨by simp; omega, ?_⟩) fun e => ?_⟩
  · rw [up64 hj (by omega)]; exact h1 e
  · rw [up64 hj (by omega)]; exact h2 e
theorem wp.spec_l07Marked.math (seen : List Bool) (h : M.spec_l07Marked_pre seen) : wp.spec_l07Marked seen (fun r => r = M.spec_l07Marked seen) := marked_wp h (Q := fun r => r = M.marked seen) rfl
theorem branch_of {p : List D.Ins} {b : Int} (h : M.has (M.branches p) b = true) : M.Branch p b := by
  simp only [M.has, List.any_eq_true, beq_iff_eq] at h
  obtain ⟨x, hx, rfl⟩ := h
  unfold M.branches at hx
  split at hx
  · rename_i hp
    obtain ⟨j, hj, rfl, hg⟩ := mem_idx.1 hx
    exact ⟨hp, by omega, by omega, hg⟩
  · exact absurd hx List.not_mem_nil
theorem branches_len (p : List D.Ins) : (M.branches p).length ≤ p.length := by
  unfold M.branches
  split
  · exact idx_len _ _
  · simp
theorem next_starts {p : List D.Ins} {k : Int} (h : M.Node p k) : M.Starts p (M.nextOf p k) := ⟨h.1, (next_ok h).1, by have := (next_ok h).2; omega⟩
theorem wp.spec_InsideOf.math (p : List D.Ins) (b : Int) (h : M.spec_InsideOf_pre p b) : wp.spec_InsideOf p b (fun r => r = M.spec_InsideOf p b) := by
  have hs : p.length ≤ 2097152 := h
  have hbl := branches_len p
  refine ⟨h, fun r hr => ?_⟩
  subst hr
  refine ⟨by show (M.branches p).length ≤ 17179869183; omega, fun r hr => bcase_mk (fun e => ?_) fun e => ?_⟩
  · have := nt e (show r = M.has (M.branches p) b from hr)
    simp [M.spec_InsideOf, M.insideOf, this]
  have e := nf e (show r = M.has (M.branches p) b from hr)
  have hB := branch_of e
  obtain ⟨n1, n2, n3, n4⟩ := br_in hB
  have hp := hB.1
  have hM : M.spec_InsideOf p b = M.marked (M.reached p (M.nextOf p b) (M.joinB p b)) := by simp only [M.spec_InsideOf, M.insideOf, e, if_true]
  rw [hM]
  refine ⟨hB, fun r2 hr2 => ⟨?_, n3, fun r3 hr3 => ?_⟩⟩
  · rw [small64 h]; omega
  have hr2' : r2 = M.joinB p b := hr2
  have hr3' : r3 = M.nextOf p b := hr3
  subst hr2' hr3'
  rw [repl_eq hp]
  refine bfs_loop (wo := M.joinB p b) (I := fun _ => True) (next_starts n3) (seen0_len _) trivial (R := M.reached p (M.nextOf p b) (M.joinB p b)) rfl (by rw [seen0_falses]; omega) (fun j rest seen next hk hl _ hc hn => ?_) (fun j rest seen next hk hl _ h1 h2 _ h5 hn => ?_) fun next _ => bcase_f rfl ⟨?_, fun r4 hr4 => hr4⟩
  · obtain ⟨f1, f2, f3, f4, f5⟩ := cons_facts (k := j) (rest := rest)
    refine bcase_t f5 ⟨f3, f4, ?_⟩
    rw [f1, f2]
    refine ⟨node_seen hk hl, bcase_mk (fun _ => hn) fun e1 => bcase_t ?_ hn⟩
    rcases hc with hc | hc
    · simpa using hc
    · rw [hc] at e1; cases e1
  · obtain ⟨f1, f2, f3, f4, f5⟩ := cons_facts (k := j) (rest := rest)
    refine bcase_t f5 ⟨f3, f4, ?_⟩
    rw [f1, f2]
    refine ⟨node_seen hk hl, bcase_f h2 (bcase_f (by simpa using h1) ⟨node_seen hk hl, hk, fun r hr => ?_⟩)⟩
    have hr' : r = M.nextOf p j := hr
    rw [hr']
    exact ⟨h5, hn trivial⟩
  · show (M.reached p (M.nextOf p b) (M.joinB p b)).length ≤ 17179869183
    rw [reached_len]; omega
theorem inside_len (p : List D.Ins) (b : Int) : (M.insideOf p b).length ≤ p.length + 1 := by
  unfold M.insideOf
  split
  · have := idx_len (fun k => rd (M.reached p (M.nextOf p b) (M.joinB p b)) k) (M.reached p (M.nextOf p b) (M.joinB p b)).length
    rw [reached_len] at this
    unfold M.marked; rw [reached_len]; exact this
  · simp
theorem inside_pos {p : List D.Ins} {b x : Int} (h : x ∈ M.insideOf p b) : 0 ≤ x := by
  unfold M.insideOf at h
  split at h
  · obtain ⟨j, hj, rfl, _⟩ := mem_idx.1 h; omega
  · exact absurd h List.not_mem_nil
theorem wp.spec_BarriersSafe.math (p : List D.Ins) (h : M.spec_BarriersSafe_pre p) : wp.spec_BarriersSafe p (fun r => r = M.spec_BarriersSafe p) := by
  have hs : p.length ≤ 2097152 := h
  have hbl := branches_len p
  refine ⟨h, fun r hr => ?_⟩
  have hr' : r = M.branches p := hr
  subst hr'
  refine all_loop (g := fun b => (M.insideOf p b).all (M.noBar p)) (Q := fun r => r = M.barriersSafe p) (l := M.branches p) (by unfold M.Long; omega) (fun k next hk h1 h2 => ?_) (fun next ha => bcase_f (by simp) ⟨small_longP h, fun r2 hr2 => ?_⟩) fun ha => by simp [M.barriersSafe, ha]
  · refine bcase_t (by simp; omega) ⟨by omega, h, fun r2 hr2 => ?_⟩
    have hr2' : r2 = M.insideOf p (rd (M.branches p) (k : Int)) := hr2
    subst hr2'
    have hil := inside_len p (rd (M.branches p) (k : Int))
    generalize hb : rd (M.branches p) (k : Int) = b at *
    refine all_loop (g := M.noBar p) (Q := fun r => r = M.barriersSafe p) (l := M.insideOf p b) (by unfold M.Long; omega) (fun j next2 hj g1 g2 => ?_) (fun next2 ha => bcase_f (by simp) ?_) fun ha => h1 ha (by rw [← hb] at ha; exact all_false (g := fun b => (M.insideOf p b).all (M.noBar p)) hk ha)
    · have hx := inside_pos (rd_mem hj)
      refine bcase_t (by simp; omega) ⟨by omega, bcase_mk (fun e => ⟨by omega, ⟨hx, by simpa using e⟩, bcase_mk (fun e2 => ?_) fun e2 => ?_⟩) fun e => ?_⟩
      · have hb2 : M.noBar p (rd (M.insideOf p b) (j : Int)) = false := by simp only [M.noBar, e, e2]; rfl
        exact g1 hb2 (all_false hj hb2)
      · rw [up64 hj (by omega)]
        exact g2 (by simp only [M.noBar, e2, Bool.and_false]; rfl)
      · rw [up64 hj (by omega)]
        exact g2 (by simp only [M.noBar, e, Bool.false_and]; rfl)
    · rw [up64 hk (by omega)]; exact h2 ha
  · show r2 = M.barriersSafe p
    rw [hr2]; simp [M.barriersSafe, ha, M.spec_ProgramOk]
end Go.V
