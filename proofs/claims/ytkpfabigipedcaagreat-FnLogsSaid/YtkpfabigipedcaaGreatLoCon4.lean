import Derived.Test.YtkpfabigipedcaaGreatLoCon3
namespace Go.V
open Go.Proofs
open IntKind (wrap)
set_option linter.unusedVariables false
set_option linter.unusedSimpArgs false
set_option maxRecDepth 100000
def qaY.vc (b : Addr) (c : Int) (d : Nat) (e : Array Value) (w : World) (K : VK) : Prop :=
  newK w (.cells #[(iv c)] 3) fun f g => Cl 82 #[(.pointer (some b)), (.func (.func 145) #[] #[(.pointer (some (bx f)))]), (.func (.func d) #[] e)] g fun h i => (∃ (a : Int), h = (iv a) ∧ K (iv a) i)

def qaY.ann : Ann := (.seq .l (.seq .l .l))

theorem qaY.start {p0 : Addr} {x1 : Int} {f2 : Nat} {cap2 : Array Value} {w : World} {K : Value → World → Prop} (h : qaY.vc p0 x1 f2 cap2 w K) : Cl 88 #[(.pointer (some p0)), (iv x1), (.func (.func f2) #[] cap2)] w K :=
  qdM mixed (fn := Tryz.f88) (by kernel_rfl) (by kernel_rfl) (an := qaY.ann) (args := [(.pointer (some p0)), (iv x1), (.func (.func f2) #[] cap2)]) (Eq.mpr (by kernel_rfl) h)

theorem qaY.con {d : D.Block} {v : Int} {s : List D.Access} {e B F x i c2c0_0 : Nat} {y f h A2c0_0 : OA} {j : Nat → Prop} {r : Int × D.Block × (List D.Access)} {w : World} (O : M.qey d v s) (P : r = M.qaY d v s) (k : Blk w e 33 (bC y B f F h x d)) (Q : Row el84 w y d.Code) (R : d.Code.length ≤ B) (z : OwnW 52 el91 el3 w 0 j f F d.Warps) (l : Own el3 w 0 h x d.Memory) (m : Blk w i 28 #[(sv A2c0_0 s.length c2c0_0)]) (A : Own el63 w 0 A2c0_0 c2c0_0 s) (S : Dis (InW f j) (InB h)) (T : e ≠ i) (n : d.Code ≠ [] → ∀ g, InB y g → ¬ (fun c => InW f j c ∨ InB h c ∨ c = e ∨ InB A2c0_0 c ∨ c = i) g) :
    Cl 88 #[(.pointer (some (bx e))), (iv v), (.func (.func 95) #[] #[(.pointer (some (bx i))), (.pointer (some (bx e)))])] w (fun U o => ∃ (C : OA) (G : Nat) (I : Nat → Prop) (E : OA) (J : Nat), U = (iv r.1) ∧ Blk o e 33 #[(sv y r.2.1.Code.length B), (sv C r.2.1.Warps.length G), (sv h d.Memory.length x), (iv r.2.1.Waiting), (iv r.2.1.Phase)] ∧ r.2.1.Code = d.Code ∧ OwnW 52 el91 el3 o 0 I C G r.2.1.Warps ∧ MovW w (InW f j) (InW C I) ∧ Own el3 o 0 h x r.2.1.Memory ∧ r.2.1.Memory.length = d.Memory.length ∧ Blk o i 28 #[(sv E r.2.2.length J)] ∧ Own el63 o 0 E J r.2.2 ∧ Mov w A2c0_0 E ∧ Chg (fun c => InW f j c ∨ InB h c ∨ c = e ∨ InB A2c0_0 c ∨ c = i) w o) := by
 have H := wp.qaY.math d v s O
 refine qaY.start ?_
 unfold vc
 unfold wp.qaY at H
 have K := MovW.refl w (InW f j)
 refine qaL (fun ag ah t V p => ?_)
 have W := k.ne t
 have X := z.qdp t
 have Y := l.qaD t
 have Z := m.ne t
 have a0 := A.qaD t
 have k := k.ext p
 have z := z.ext p
 have l := l.ext p
 have m := m.ext p
 have A := A.ext p
 have q := (Chg.refl (fun c => InW f j c ∨ InB h c ∨ c = e ∨ InB A2c0_0 c ∨ c = i) w).then p
 obtain ⟨a1, H⟩ := H
 obtain ⟨a2, a3, H⟩ := qaa H
 refine (qaI.con a1 a3 k (Q.chgS q n) R (z.mono (Nat.zero_le _)) (l.mono (Nat.zero_le _)) V m (A.mono (Nat.zero_le _)) S T (fun a => a.elim X (fun a => a.elim (Y).inb (fun a => a.elim ((W).symm) (fun a => a.elim (a0).inb ((Z).symm))))) (fun u => (fun g b => (fun a => a.elim ((fun g b a => n u g b (Or.inl a)) g b) (fun a => a.elim ((fun g b a => n u g b (Or.inr (Or.inl a))) g b) (fun a => a.elim ((fun g b a => n u g b (Or.inr (Or.inr (Or.inl a)))) g b) (fun a => a.elim ((fun g b a => n u g b (Or.inr (Or.inr (Or.inr (Or.inl a))))) g b) ((fun g b a => n u g b (Or.inr (Or.inr (Or.inr (Or.inr a))))) g b)))))))).mono ?_
 rintro _ ai ⟨a4, a5, a6, a7, a8, rfl, L, a9, Q8, aa, Q4, N, Q5, Q9, ab, ac⟩
 simp only [bC, wC, a9] at L
 try dsimp only at N
 have ad := K.trans aa q.size
 have ae := Mov.trans (Mov.same w A2c0_0) ab q.size
 have q := q.chg ac (fun g => (fun a => a.elim ((fun g b => ((K _ b).elim (fun af => Or.inr (Or.inl af)) Or.inl)) g) (fun a => a.elim ((fun g b => (Or.inr (Or.inr (Or.inl b)))) g) (fun a => a.elim ((fun g b => Or.inr (Or.inr (Or.inr (Or.inl b)))) g) (fun a => a.elim ((fun g b => (Or.inr (Or.inr (Or.inr (Or.inr (Or.inl b)))))) g) ((fun g b => Or.inr (Or.inr (Or.inr (Or.inr (Or.inr b))))) g))))))
 have k := L
 have m := Q5
 have l := Q4
 have O8 := Q8
 have O9 := Q9
 refine ⟨a2.1, rfl, ?_⟩
 cases P.trans H.symm
 exact ⟨a4, a5, a6, a7, a8, rfl, k, rfl, (O8.mono (Nat.zero_le _)), ad, l, (by first | (simp only [bC, wC, List.length_set]; done) | (simp only [bC, wC, List.length_set, N]; done) | (simp; done) | (simp; omega) | omega), m, (O9.mono (Nat.zero_le _)), ae, q⟩
def qd2.vc (J : OA) (L M : Nat) (N : OA) (O P : Nat) (Q : OA) (R S : Nat) (T U i : Int) (w : World) (K : VK) : Prop :=
  newK w (.cells (vB J L M N O P Q R S T U) 33) fun j V => newK V (.cells zC 33) fun d k => ldB k (bx j) fun W X Y Z a0 a1 a2 a3 a4 a5 a6 => Cl 69 #[(.agg (vB W X Y Z a0 a1 a2 a3 a4 a5 a6))] k fun a7 a8 => (∃ (l : OA) (m n : Nat), True ∧ ∃ (o : OA) (p q : Nat), True ∧ ∃ (r : OA) (s t : Nat), True ∧ ∃ (u : Int), True ∧ ∃ (v : Int), True ∧ a7 = (.agg (vB l m n o p q r s t u v)) ∧ newK a8 (.cells zC 33) fun a a9 => qa5 (bx a) [(sv l m n), (sv o p q), (sv r s t), (iv u), (iv v)] 0 a9 fun x => ldB x (bx j) fun aa ab ac ad ae af ag ah ai aj ak => Cl 32 #[(.agg (vB aa ab ac ad ae af ag ah ai aj ak))] x fun al e => (∃ (y : Bool), al = (.bool y) ∧ qa1 (!y) (ldB e (bx a) fun am an ao ap aq ar au av aw ax ay => qa5 (bx d) [(sv am an ao), (sv ap aq ar), (sv au av aw), (iv ax), (iv ay)] 0 e fun z => ldB z (bx d) fun az aA aB aC aD aE aF aG aH aI aJ => K (.tuple #[(.agg (vB az aA aB aC aD aE aF aG aH aI aJ)), (sv none 0 0)]) z) (Cl 87 #[(iv i)] e fun aK f => (∃ (A : Bool), aK = (.bool A) ∧ qa1 (!A) (ldB f (bx a) fun aL aM aN aO aP aQ aR aS aT aU aV => qa5 (bx d) [(sv aL aM aN), (sv aO aP aQ), (sv aR aS aT), (iv aU), (iv aV)] 0 f fun B => ldB B (bx d) fun aW aX aY aZ b0 b1 b2 b3 b4 b5 b6 => K (.tuple #[(.agg (vB aW aX aY aZ b0 b1 b2 b3 b4 b5 b6)), (sv none 0 0)]) B) (Run Tryz.prog (Instr.buildSlice 28 0 #[]) f fun b7 b8 => ∃ (C : OA) (D E : Nat), b7 = .slice C D E ∧ newK b8 (.cells #[(sv none 0 0)] 28) fun g b9 => qa5 (bx g) [(sv C D E)] 0 b9 fun ba => Cl 88 #[(.pointer (some (bx a))), (iv i), (.func (.func 95) #[] #[(.pointer (some (bx g))), (.pointer (some (bx a)))])] ba fun bb b => (∃ (bc : Int), bb = (iv bc) ∧ (∃ c : Nat → Prop, ldSM c b (bx a) 0 fun bd be bf => ldSM c b (bx a) 1 fun bg bh bi => ldSM c b (bx a) 2 fun bj bk bl => ldIM c b (bx a) 3 fun bm => ldIM c b (bx a) 4 fun bn => ldSM c b (bx g) 0 fun bo bp bq => Cl 42 #[(sv none 0 0), (sv bo bp bq)] b.drew fun br F => (∃ (G : OA) (H I : Nat), br = (sv G H I) ∧ qab c b F ∧ qa5 (bx d) [(sv bd be bf), (sv bg bh bi), (sv bj bk bl), (iv bm), (iv bn)] 0 F fun h => qab c b h ∧ ldB h (bx d) fun bs bt bu bv bw bz bA bB bC bD bE => K (.tuple #[(.agg (vB bs bt bu bv bw bz bA bB bC bD bE)), (sv G H I)]) h))))))))

def qd2.ann : Ann := (.seq .l (.seq .l (.seq (.seq .l (.two (.seq .l .l) .l)) (.seq .l (.seq .l (.seq .l .l))))))

theorem qd2.con {l : D.Block} {Z a0 a1 : OA} {a2 a3 a4 : Nat} {Q : Int} {r : D.Block × (List D.Access)} {w : World} (hp : M.qfz l Q) (hr : r = M.qd2 l Q) (ah : Row el84 w Z l.Code) (ai : l.Code.length ≤ a2) (aj : RowW 52 el91 el3 w a0 l.Warps) (ak : l.Warps.length ≤ a3) (al : Row el3 w a1 l.Memory) (am : l.Memory.length ≤ a4) :
    Cl 41 #[(.agg (bC Z a2 a0 a3 a1 a4 l)), (iv Q)] w (fun v_ R => ∃ (an : OA) (ao : Nat) (a5 : OA) (ap : Nat) (aq : Nat → Prop) (a6 : OA) (ar : Nat) (au : OA) (av : Nat), v_ = (.tuple #[(.agg (bC an ao a5 ap a6 ar r.1)), (sv au r.2.length av)]) ∧ Own el84 R w.heap.size an ao r.1.Code ∧ OwnW 52 el91 el3 R w.heap.size aq a5 ap r.1.Warps ∧ Own el3 R w.heap.size a6 ar r.1.Memory ∧ Own el63 R w.heap.size au av r.2 ∧ Dis (InW a5 aq) (InB a6) ∧ Ext w R) := by
 have H := wp.qd2.math l Q hp
 refine begK mixed Tryz.f41 ann (vc Z l.Code.length a2 a0 l.Warps.length a3 a1 l.Memory.length a4 l.Waiting l.Phase Q) ?_
 unfold vc
 unfold wp.qd2 at H
 refine qaL (fun bk bl L4 k aI => ?_)
 have b := qa6 (Ext.refl w) aI
 refine qaL (fun aw bm S P5 ax => ?_)
 have k := k.ext ax
 have c := P5
 have S := Nat.le_trans b.size S
 have b := qa6 b ax
 refine ⟨_, _, _, (k.a 0), _, _, _, (k.a 1), _, _, _, (k.a 2), _, (k.a 3), _, (k.a 4), ?_⟩
 obtain ⟨aJ, H⟩ := H
 obtain ⟨n, aK, H⟩ := qaa H
 refine (qca.con aJ aK (ah.ext b) ai (aj.ext b) ak (al.ext b) am).mono ?_
 rintro _ bn ⟨s, t, B, C, ay, u, v, rfl, P6, P7, P8, T, a7⟩
 have a8 := P6.qap c.lt
 have a9 := P7.qg6 c (Nat.le_refl _)
 have U := P8.qap c.lt
 have k := k.ext a7
 have c := c.ext a7
 have d := P6.mono b.size
 have j := P7.mono b.size
 have e := P8.mono b.size
 have b := qa6 b a7
 refine ⟨s, n.Code.length, t, trivial, B, n.Warps.length, C, trivial, u, n.Memory.length, v, trivial, n.Waiting, trivial, n.Phase, trivial, rfl, ?_⟩
 refine qaL (fun bo bp q P9 E => ?_)
 have aL := k.ne q
 have x := c.ne q
 have aa := d.qaD q
 have aM := j.qdp q
 have aO := e.qaD q
 have c := c.ext E
 have d := d.ext E
 have j := j.ext E
 have e := e.ext E
 have i := P9
 have q := Nat.le_trans b.size q
 have b := qa6 b E
 refine qda i (o := 0) (cs' := (bC s t B C u v n)) rfl rfl (Nat.le_of_ble_eq_true rfl) rfl (fun bq i F => ?_)
 have k := (k.ext E).chg F aL
 have aP := c.chg F x
 have ab := d.chg F aa
 have aQ := j.chg F aM
 have ac := e.chg F aO
 have b := echg b F q
 refine ⟨_, _, _, (k.a 0), _, _, _, (k.a 1), _, _, _, (k.a 2), _, (k.a 3), _, (k.a 4), ?_⟩
 obtain ⟨aR, H⟩ := H
 obtain ⟨aS, aT, H⟩ := qaa H
 refine (qcW.con aR aT (ah.ext b) ai (aj.ext b) ak (al.ext b) am).mono ?_
 rintro _ br ⟨rfl, G⟩
 have c := aP.ext G
 have d := ab.ext G
 have j := aQ.ext G
 have e := ac.ext G
 have i := i.ext G
 have b := qa6 b G
 refine ⟨aS, rfl, ?_⟩
 apply brc H<;>intro h H
 ·refine ⟨_, _, _, (i.a 0), _, _, _, (i.a 1), _, _, _, (i.a 2), _, (i.a 3), _, (i.a 4), ?_⟩
  refine qda c (o := 0) (cs' := (bC s t B C u v n)) rfl rfl (Nat.le_of_ble_eq_true rfl) rfl (fun bs c V => ?_)
  have d := d.chg V a8
  have j := j.chg V a9
  have e := e.chg V U
  have b := echg b V S
  refine ⟨_, _, _, (c.a 0), _, _, _, (c.a 1), _, _, _, (c.a 2), _, (c.a 3), _, (c.a 4), ?_⟩
  cases hr.trans H.symm
  exact ⟨s, t, B, C, ay, u, v, none, 0, rfl, d, j, e, Own.nil, T, b⟩
 obtain ⟨aU, aV, H⟩ := qaa H
 refine (qcM.con aV ).mono ?_
 rintro _ bt ⟨rfl, I⟩
 have c := c.ext I
 have d := d.ext I
 have j := j.ext I
 have e := e.ext I
 have i := i.ext I
 have b := qa6 b I
 refine ⟨aU, rfl, ?_⟩
 apply brc H<;>intro h H
 ·refine ⟨_, _, _, (i.a 0), _, _, _, (i.a 1), _, _, _, (i.a 2), _, (i.a 3), _, (i.a 4), ?_⟩
  refine qda c (o := 0) (cs' := (bC s t B C u v n)) rfl rfl (Nat.le_of_ble_eq_true rfl) rfl (fun bu c W => ?_)
  have d := d.chg W a8
  have j := j.chg W a9
  have e := e.chg W U
  have b := echg b W S
  refine ⟨_, _, _, (c.a 0), _, _, _, (c.a 1), _, _, _, (c.a 2), _, (c.a 3), _, (c.a 4), ?_⟩
  cases hr.trans H.symm
  exact ⟨s, t, B, C, ay, u, v, none, 0, rfl, d, j, e, Own.nil, T, b⟩
 refine qaz el63 ([] : List D.Access) (fun _ => by kernel_rfl) rfl (fun aW bv ad J => ?_)
 have aX := ad.qap c.lt
 have az := aN d ad
 have c := c.ext J
 have d := d.ext J
 have j := j.ext J
 have e := e.ext J
 have i := i.ext J
 have K := ad.mono b.size
 have b := qa6 b J
 refine qaL (fun bw bx p aY y => ?_)
 have ae := c.ne p
 have af := d.qaD p
 have aZ := j.qdp p
 have b0 := e.qaD p
 have aA := i.ne p
 have b1 := K.qaD p
 have d := d.ext y
 have e := e.ext y
 have i := i.ext y
 have L := aY
 have p := Nat.le_trans b.size p
 have b := qa6 b y
 refine qda L (o := 0) (cs' := #[(sv aW 0 0)]) rfl rfl (Nat.le_of_ble_eq_true rfl) rfl (fun bz L z => ?_)
 have ab := d.chg z af
 have j := (j.ext y).chg z aZ
 have ac := e.chg z b0
 have b2 := i.chg z aA
 have K := (K.ext y).chg z b1
 have d := ab
 have e := ac
 have i := b2
 have b := echg b z p
 obtain ⟨b3, H⟩ := H
 obtain ⟨X, b4, H⟩ := qaa H
 refine (qaY.con b3 b4 i d.row d.le (j.mono (Nat.zero_le _)) (e.mono (Nat.zero_le _)) (by first | exact L | (simp only [bC, wC, List.length_set]; exact L)) (K.mono (Nat.zero_le _)) T aA (fun _ => (fun g m => (fun f => f.elim (((j.qfe d (by decide) (by decide) (by decide))).symm g m) (fun f => f.elim (((Own.qai d e (by decide))).inb g m) (fun f => f.elim ((qbT aa) g m) (fun f => f.elim ((az).inb g m) ((qbT af) g m)))))))).mono ?_
 rintro _ b5 ⟨aB, aC, b6, bA, bB, rfl, Q9, b7, b8, aD, Q8, b9, ba, bb, bc, ag⟩
 simp only [bC, wC, b7] at Q9
 try dsimp only at b9
 have bd := aD.dis T e.oldA
 have be := aD.low j.lowW b.size
 have bf := bc.low K.low b.size
 have d := d.chgS ag (fun g m => (fun f => f.elim (((j.qfe d (by decide) (by decide) (by decide))).symm g m) (fun f => f.elim (((Own.qai d e (by decide))).inb g m) (fun f => f.elim ((qbT aa) g m) (fun f => f.elim ((az).inb g m) ((qbT af) g m))))))
 have b := Chg.ext b ag (fun g => (fun f => f.elim (j.lowW g) (fun f => f.elim (e.low g) (fun f => f.elim ((qgv q) g) (fun f => f.elim (K.low g) ((qgv p) g))))))
 have i := Q9
 have L := ba
 refine ⟨X.1, rfl, ((fun k_ => k_ = aw)), _, _, _, ⟨(qfb ((x).symm) (by first | rfl | (simp only [qcT]))), (i.a 0)⟩, _, _, _, ⟨(qfb ((x).symm) (by first | rfl | (simp only [qcT]))), (i.a 1)⟩, _, _, _, ⟨(qfb ((x).symm) (by first | rfl | (simp only [qcT]))), (i.a 2)⟩, _, ⟨(qfb ((x).symm) (by first | rfl | (simp only [qcT]))), (i.a 3)⟩, _, ⟨(qfb ((x).symm) (by first | rfl | (simp only [qcT]))), (i.a 4)⟩, _, _, _, ⟨(qfb ((ae).symm) (by first | rfl | (simp only [qcT]))), (L.a 0)⟩, ?_⟩
 have c := (((c.ext y).chg z ae).chgS ag (fun f => f.elim a9 (fun f => f.elim (U).inb (fun f => f.elim (x) (fun f => f.elim (aX).inb (ae)))))).ext (Ext.drew _)
 have d := d.ext (Ext.drew _)
 have e := (Q8.up e).ext (Ext.drew _)
 have A := (b8.lift be).ext (Ext.drew _)
 have aE := (bb.lift bf).ext (Ext.drew _)
 have b := qa6 b (Ext.drew _)
 have N := (Chg.refl ((fun k_ => k_ = aw)) b5).then (Ext.drew _)
 obtain ⟨bg, H⟩ := H
 obtain ⟨bh, bi, H⟩ := qaa H
 refine (qbH.con bg bi (Row.nil el63 _ none) (Nat.le_refl _) aE.row aE.le).mono ?_
 rintro _ bD ⟨aF, aG, rfl, aH, O⟩
 have bj := aH.qap c.lt
 have c := c.ext O
 have A := A.ext O
 have Y := aH.mono b.size
 have b := qa6 b O
 have N := N.then O
 refine ⟨aF, bh.length, aG, rfl, qaw N, ?_⟩
 refine stB c 0 #[(sv s n.Code.length t), (sv aB X.2.1.Warps.length aC), (sv u n.Memory.length v), (iv X.2.1.Waiting), (iv X.2.1.Phase)] (fun bE P5 P => ?_)
 have d := (d.ext O).chg P a8
 have e := (e.ext O).chg P U
 have A := A.chg P (A.qd0 c (by decide) (by decide) (by decide))
 have Y := Y.chg P bj
 have b := echg b P S
 have N := N.chgb P (Or.inr rfl)
 have c := P5
 refine ⟨qaw N, _, _, _, (c.a 0), _, _, _, (c.a 1), _, _, _, (c.a 2), _, (c.a 3), _, (c.a 4), ?_⟩
 cases hr.trans H.symm
 exact ⟨s, t, aB, aC, b6, u, v, aF, aG, (by first | rfl | (simp; done) | (simp; omega) | (simp [*]; done)), (by first | exact d | (simp only [bC, wC, List.length_set]; exact d)), (by first | exact A | (simp only [bC, wC, List.length_set]; exact A)), (by first | exact e | (simp only [bC, wC, List.length_set]; exact e)), (by first | exact Y | (simp only [bC, wC, List.length_set]; exact Y)), bd, b⟩
def qe0.vc (k : OA) (l m : Nat) (w : World) (K : VK) : Prop :=
  Cl 18 #[(sv k l m)] w fun a9 N => (∃ (O : Bool), a9 = (.bool O) ∧ qa1 O (K (.bool true) N) (Cl 19 #[(sv k l m)] N fun aa ab => (∃ (P : OA) (Q R : Nat), True ∧ ∃ (S : OA) (T U : Nat), True ∧ ∃ (V : OA) (W X : Nat), True ∧ ∃ (Y : Int), True ∧ ∃ (Z : Int), True ∧ aa = (.agg (vB P Q R S T U V W X Y Z)) ∧ newK ab (.cells zC 33) fun g ac => qa5 (bx g) [(sv P Q R), (sv S T U), (sv V W X), (iv Y), (iv Z)] 0 ac fun ad => Cl 27 #[(sv k l m)] ad fun ae n => (∃ (a0 : OA) (a1 af : Nat), ae = (sv a0 a1 af) ∧ (idx 0 a1 a0 fun ag => ldI n ((ag.add (((0 : Int).toNat) * 1)).add 0) fun a2 => ((4 : Int) ≠ 0 ∧ ldB n (bx g) fun ah ai aj ak al am an ao ap aq ar => Cl 41 #[(.agg (vB ah ai aj ak al am an ao ap aq ar)), (iv (Int.tmod a2 4))] n fun au av => (∃ aw : Value, (∃ (o : OA) (p q : Nat), True ∧ ∃ (r : OA) (s t : Nat), True ∧ ∃ (u : OA) (v x : Nat), True ∧ ∃ (y : Int), True ∧ ∃ (z : Int), True ∧ aw = (.agg (vB o p q r s t u v x y z)) ∧ ∃ ax : Value, (∃ (d : OA) (c h : Nat), ax = (sv d c h) ∧ au = (.tuple #[(.agg (vB o p q r s t u v x y z)), (sv d c h)]) ∧ newK av (.cells zC 33) fun a3 ay => qa5 (bx a3) [(sv o p q), (sv r s t), (sv u v x), (iv y), (iv z)] 0 ay fun a4 => ldB a4 (bx g) fun az aA aB aC aD aE aF aG aH aI aJ => Cl 39 #[(.agg (vB az aA aB aC aD aE aF aG aH aI aJ)), (iv (Int.tmod a2 4))] a4 fun aK aL => (∃ aM : Value, (∃ (A : OA) (B C : Nat), True ∧ ∃ (D : OA) (E F : Nat), True ∧ ∃ (G : OA) (H I : Nat), True ∧ ∃ (J : Int), True ∧ ∃ (L : Int), True ∧ aM = (.agg (vB A B C D E F G H I J L)) ∧ ∃ aN : Value, (∃ (a5 : Int), aN = (iv a5) ∧ aK = (.tuple #[(.agg (vB A B C D E F G H I J L)), (iv a5)]) ∧ newK aL (.cells zC 33) fun M aO => qa5 (bx M) [(sv A B C), (sv D E F), (sv G H I), (iv J), (iv L)] 0 aO fun aP => qdh (σ := Int × Unit) (fun a b aQ => qa1 (decide (a.1 < ((c : Nat) : Int))) ((idx a.1 c d fun aR => ldI b (((aR.add ((a.1.toNat) * 4)).add 0).add 0) fun aS => ldI b (((bx g).add 4).add 0) fun aT => qa1 (decide (aS < aT)) (K (.bool false) b.drew) ((idx a.1 c d fun aU => ldI b (((aU.add ((a.1.toNat) * 4)).add 0).add 0) fun aV => ldI b (((bx M).add 4).add 0) fun aW => qa1 (decide (aV > aW)) (K (.bool false) b.drew) ((idx a.1 c d fun aX => ldI b (((aX.add ((a.1.toNat) * 4)).add 2).add 0) fun aY => qa1 (decide (aY < 0)) (K (.bool false) b.drew) ((idx a.1 c d fun aZ => ldI b (((aZ.add ((a.1.toNat) * 4)).add 2).add 0) fun b0 => qa1 (decide (b0 ≥ 32)) (K (.bool false) b.drew) ((idx a.1 c d fun b1 => ldI b (((b1.add ((a.1.toNat) * 4)).add 1).add 0) fun b2 => qa1 (decide (b2 < 0)) (K (.bool false) b.drew) ((idx a.1 c d fun b3 => ldI b (((b3.add ((a.1.toNat) * 4)).add 1).add 0) fun b4 => ldS b (((bx g).add 1).add 0) fun bJ b5 bK => qa1 (decide (b4 ≥ ((b5 : Nat) : Int))) (K (.bool false) b.drew) (qdh (σ := Int × Unit) (fun f e b6 => qa1 (decide (f.1 < a.1)) ((idx f.1 c d fun i => ldI e ((i.add ((f.1.toNat) * 4)).add 0) fun b7 => ldI e ((i.add ((f.1.toNat) * 4)).add 1) fun b8 => ldI e ((i.add ((f.1.toNat) * 4)).add 2) fun b9 => ldI e ((i.add ((f.1.toNat) * 4)).add 3) fun ba => (idx a.1 c d fun j => ldI e ((j.add ((a.1.toNat) * 4)).add 0) fun bb => ldI e ((j.add ((a.1.toNat) * 4)).add 1) fun bc => ldI e ((j.add ((a.1.toNat) * 4)).add 2) fun bd => ldI e ((j.add ((a.1.toNat) * 4)).add 3) fun be => qk8 Tryz.prog .eql 63 (.agg #[(iv b7), (iv b8), (iv b9), (iv ba)]) (.agg #[(iv bb), (iv bc), (iv bd), (iv be)]) fun bf => qa1 bf (K (.bool false) e.drew) (b6 ((wrap .i64 (f.1 + 1)), ()) e.drew)))) (aQ ((wrap .i64 (a.1 + 1)), ()) e)) (0, ()) b.drew))))))))))))) (ldB b (bx a3) fun bg bh bi bj bk bl bm bn bo bp bq => ldB b (bx M) fun br bs bt bu bv bw bz bA bB bC bD => Cl 30 #[(.agg (vB bg bh bi bj bk bl bm bn bo bp bq)), (.agg (vB br bs bt bu bv bw bz bA bB bC bD))] b fun bE a6 => (∃ (a7 : Bool), bE = (.bool a7) ∧ qa1 a7 (Cl 42 #[(sv d c h), (sv d c h)] a6 fun bF bG => (∃ (bH : OA) (a8 bI : Nat), bF = (sv bH a8 bI) ∧ K (.bool (((a8 : Nat) : Int) == ((c : Nat) : Int))) bG)) (K (.bool false) a6)))) (0, ()) aP))))))))))))

def qe0.ann : Ann := (.seq .l (.seq (.seq .l (.two (.seq .l .l) .l)) (.seq .l (.seq .l (.seq .l (.seq .l (.seq .l (.seq (.seq .l (.one (.loop [(10, .int .i64)] (.seq (.seq .l (.two .l .l)) (.seq (.one (.seq (.seq .l (.two (.seq .l .l) .l)) (.seq .l (.one (.loop [(11, .int .i64)] (.seq (.seq .l (.two .l .l)) (.seq (.one (.seq .l (.two (.seq .l .l) .l))) .l))))))) .l))))) (.seq .l .l)))))))))

theorem qe0.con {D : List Int} {A0 : OA} {c0 : Nat} {r : Bool} {w : World} (hp : M.qgU D) (z : r = M.qe0 D) (R0 : Row el5 w A0 D) (a9 : D.length ≤ c0) :
    Cl 8 #[(sv A0 D.length c0)] w (fun v_ d => v_ = (.bool r) ∧ Ext w d) := by
 have H := wp.qe0.math D hp
 have b := Ext.refl w
 refine begK mixed Tryz.f8 ann (vc A0 D.length c0) ?_
 unfold vc
 unfold wp.qe0 at H
 obtain ⟨aI, aJ, H⟩ := qaa H
 refine (qff.con aJ (R0.ext b) a9).mono ?_
 rintro _ c7 ⟨rfl, aK⟩
 have b := qa6 b aK
 refine ⟨aI, rfl, ?_⟩
 apply brc H<;>intro h H
 ·cases z.trans H.symm
  exact ⟨rfl, b⟩
 obtain ⟨aL, H⟩ := H
 obtain ⟨s, aM, H⟩ := qaa H
 refine (qcC.con aL aM (R0.ext b) a9).mono ?_
 rintro _ c8 ⟨U, W, X, Y, ad, Z, a0, rfl, P2, P3, P4, c9, aN⟩
 have f := P2.mono b.size
 have g := P3.mono b.size
 have i := P4.mono b.size
 have b := qa6 b aN
 refine ⟨U, s.Code.length, W, trivial, X, s.Warps.length, Y, trivial, Z, s.Memory.length, a0, trivial, s.Waiting, trivial, s.Phase, trivial, rfl, ?_⟩
 refine qaL (fun ae ca L5 P5 a3 => ?_)
 have aO := f.qaD L5
 have aP := g.qdp L5
 have aQ := i.qaD L5
 have f := f.ext a3
 have g := g.ext a3
 have i := i.ext a3
 have c := P5
 have L5 := Nat.le_trans b.size L5
 have b := qa6 b a3
 refine qda c (o := 0) (cs' := (bC U W X Y Z a0 s)) rfl rfl (Nat.le_of_ble_eq_true rfl) rfl (fun cb c a4 => ?_)
 have aa := f.chg a4 aO
 have ab := g.chg a4 aP
 have ac := i.chg a4 aQ
 have b := echg b a4 L5
 obtain ⟨aR, H⟩ := H
 obtain ⟨aS, aT, H⟩ := qaa H
 refine (qbq.con aR aT (R0.ext b) a9).mono ?_
 rintro _ cc ⟨aU, aV, rfl, P6, a1⟩
 have f := aa.ext a1
 have g := ab.ext a1
 have i := ac.ext a1
 have c := c.ext a1
 have O6 := P6.mono b.size
 have b := qa6 b a1
 refine ⟨aU, aS.length, aV, rfl, ?_⟩
 obtain ⟨⟨af, ag⟩, H⟩ := H
 obtain ⟨aW, aX, aY⟩ := Row.at O6.row af ag
 refine ⟨af, ag, aW, aX, _, (aY 0 _ rfl), by decide, _, _, _, (c.a 0), _, _, _, (c.a 1), _, _, _, (c.a 2), _, (c.a 3), _, (c.a 4), ?_⟩
 obtain ⟨aZ, H⟩ := H
 obtain ⟨j, b0, H⟩ := qaa H
 refine (qd2.con aZ b0 f.row f.le g.row g.le i.row i.le).mono ?_
 rintro _ cd ⟨E, F, G, I, ah, J, K, a5, a6, rfl, P7, P8, P9, b1, ce, a2⟩
 have f := f.ext a2
 have g := g.ext a2
 have i := i.ext a2
 have c := c.ext a2
 have l := P7.mono b.size
 have m := P8.mono b.size
 have n := P9.mono b.size
 have e := b1.mono b.size
 have b := qa6 b a2
 refine ⟨(.agg (bC E F G I J K j.1)), E, j.1.Code.length, F, trivial, G, j.1.Warps.length, I, trivial, J, j.1.Memory.length, K, trivial, j.1.Waiting, trivial, j.1.Phase, trivial, rfl, (sv a5 j.2.length a6), a5, j.2.length, a6, rfl, rfl, ?_⟩
 refine qaL (fun ai cf y b2 B => ?_)
 have b3 := f.qaD y
 have b4 := g.qdp y
 have b5 := i.qaD y
 have b6 := c.ne y
 have b7 := l.qaD y
 have b8 := m.qdp y
 have b9 := n.qaD y
 have ba := e.qaD y
 have f := f.ext B
 have g := g.ext B
 have i := i.ext B
 have c := c.ext B
 have l := l.ext B
 have m := m.ext B
 have n := n.ext B
 have e := e.ext B
 have k := b2
 have y := Nat.le_trans b.size y
 have b := qa6 b B
 refine qda k (o := 0) (cs' := (bC E F G I J K j.1)) rfl rfl (Nat.le_of_ble_eq_true rfl) rfl (fun cg k C => ?_)
 have aa := f.chg C b3
 have ab := g.chg C b4
 have ac := i.chg C b5
 have bb := c.chg C b6
 have bc := l.chg C b7
 have bd := m.chg C b8
 have be := n.chg C b9
 have bf := e.chg C ba
 have f := aa
 have g := ab
 have i := ac
 have c := bb
 have b := echg b C y
 refine ⟨_, _, _, (c.a 0), _, _, _, (c.a 1), _, _, _, (c.a 2), _, (c.a 3), _, (c.a 4), ?_⟩
 obtain ⟨bg, H⟩ := H
 obtain ⟨p, bh, H⟩ := qaa H
 refine (qcg.con bg bh f.row f.le g.row g.le i.row i.le).mono ?_
 rintro _ ch ⟨L, N, O, P, aj, Q, R, rfl, bi, bj, bk, ci, A⟩
 have t := bi.mono b.size
 have u := bj.mono b.size
 have v := bk.mono b.size
 refine ⟨(.agg (bC L N O P Q R p.1)), L, p.1.Code.length, N, trivial, O, p.1.Warps.length, P, trivial, Q, p.1.Memory.length, R, trivial, p.1.Waiting, trivial, p.1.Phase, trivial, rfl, (iv p.2), p.2, rfl, rfl, ?_⟩
 refine qid (bC L N O P Q R p.1) (fun ak cj ck q x => ?_)
 have f := (f.ext A).ext x
 have g := (g.ext A).ext x
 have i := (i.ext A).ext x
 have c := (c.ext A).ext x
 have l := (bc.ext A).ext x
 have m := (bd.ext A).ext x
 have n := (be.ext A).ext x
 have e := (bf.ext A).ext x
 have k := (k.ext A).ext x
 have t := t.ext x
 have u := u.ext x
 have v := v.ext x
 have b := qa6 (qa6 b A) x
 obtain ⟨bl, ⟨bm, bn⟩, al⟩ := H
 refine ⟨fun m_ z_ d => ∃ (S : Int), z_ = (S, ()) ∧ bl m_ (S, ()) ∧ Ext w d ∧ Own el84 d w.heap.size U W s.Code ∧ OwnW 52 el91 el3 d w.heap.size ad X Y s.Warps ∧ Own el3 d w.heap.size Z a0 s.Memory ∧ Blk d ae 33 (bC U W X Y Z a0 s) ∧ Own el84 d w.heap.size E F j.1.Code ∧ OwnW 52 el91 el3 d w.heap.size ah G I j.1.Warps ∧ Own el3 d w.heap.size J K j.1.Memory ∧ Own el63 d w.heap.size a5 a6 j.2 ∧ Blk d ai 33 (bC E F G I J K j.1) ∧ Own el84 d w.heap.size L N p.1.Code ∧ OwnW 52 el91 el3 d w.heap.size aj O P p.1.Warps ∧ Own el3 d w.heap.size Q R p.1.Memory ∧ Blk d ak 33 (bC L N O P Q R p.1), ⟨bm, 0, rfl, bn, b, f, g, i, c, l, m, n, e, k, t, u, v, q⟩, ?_⟩
 rintro bo _ cl ⟨S, rfl, am, b, f, g, i, c, l, m, n, e, k, t, u, v, q⟩
 have H := al bo _ am
 clear al am
 try dsimp only at H ⊢
 apply brc H<;>intro h H
 ·obtain ⟨⟨an, ao⟩, H⟩ := H
  obtain ⟨bp, bq, br⟩ := Row.at e.row an ao
  refine ⟨an, ao, bp, bq, _, (br 0 _ rfl), _, (c.a 4), ?_⟩
  apply brc H<;>intro h H
  ·have b := qa6 b (Ext.drew _)
   cases z.trans H.symm
   exact ⟨rfl, b⟩
  obtain ⟨⟨ap, aq⟩, H⟩ := H
  obtain ⟨bs, bt, bu⟩ := Row.at e.row ap aq
  refine ⟨ap, aq, bs, bt, _, (bu 0 _ rfl), _, (q.a 4), ?_⟩
  apply brc H<;>intro h H
  ·have b := qa6 b (Ext.drew _)
   cases z.trans H.symm
   exact ⟨rfl, b⟩
  obtain ⟨⟨ar, au⟩, H⟩ := H
  obtain ⟨bv, bw, bx⟩ := Row.at e.row ar au
  refine ⟨ar, au, bv, bw, _, (bx 2 _ rfl), ?_⟩
  apply brc H<;>intro h H
  ·have b := qa6 b (Ext.drew _)
   cases z.trans H.symm
   exact ⟨rfl, b⟩
  obtain ⟨⟨av, aw⟩, H⟩ := H
  obtain ⟨bz, bA, bB⟩ := Row.at e.row av aw
  refine ⟨av, aw, bz, bA, _, (bB 2 _ rfl), ?_⟩
  apply brc H<;>intro h H
  ·have b := qa6 b (Ext.drew _)
   cases z.trans H.symm
   exact ⟨rfl, b⟩
  obtain ⟨⟨ax, ay⟩, H⟩ := H
  obtain ⟨bD, bE, bF⟩ := Row.at e.row ax ay
  refine ⟨ax, ay, bD, bE, _, (bF 1 _ rfl), ?_⟩
  apply brc H<;>intro h H
  ·have b := qa6 b (Ext.drew _)
   cases z.trans H.symm
   exact ⟨rfl, b⟩
  obtain ⟨⟨az, aA⟩, H⟩ := H
  obtain ⟨bG, bH, bI⟩ := Row.at e.row az aA
  refine ⟨az, aA, bG, bH, _, (bI 1 _ rfl), _, _, _, (c.a 1), ?_⟩
  have f := f.ext (Ext.drew _)
  have g := g.ext (Ext.drew _)
  have i := i.ext (Ext.drew _)
  have c := c.ext (Ext.drew _)
  have l := l.ext (Ext.drew _)
  have m := m.ext (Ext.drew _)
  have n := n.ext (Ext.drew _)
  have e := e.ext (Ext.drew _)
  have k := k.ext (Ext.drew _)
  have t := t.ext (Ext.drew _)
  have u := u.ext (Ext.drew _)
  have v := v.ext (Ext.drew _)
  have q := q.ext (Ext.drew _)
  have b := qa6 b (Ext.drew _)
  apply brc H<;>intro h H
  ·cases z.trans H.symm
   exact ⟨rfl, b⟩
  obtain ⟨bJ, ⟨bK, bL⟩, aB⟩ := H
  refine ⟨fun m_ z_ d => ∃ (T : Int), z_ = (T, ()) ∧ bJ m_ (T, ()) ∧ Ext w d ∧ Own el84 d w.heap.size U W s.Code ∧ OwnW 52 el91 el3 d w.heap.size ad X Y s.Warps ∧ Own el3 d w.heap.size Z a0 s.Memory ∧ Blk d ae 33 (bC U W X Y Z a0 s) ∧ Own el84 d w.heap.size E F j.1.Code ∧ OwnW 52 el91 el3 d w.heap.size ah G I j.1.Warps ∧ Own el3 d w.heap.size J K j.1.Memory ∧ Own el63 d w.heap.size a5 a6 j.2 ∧ Blk d ai 33 (bC E F G I J K j.1) ∧ Own el84 d w.heap.size L N p.1.Code ∧ OwnW 52 el91 el3 d w.heap.size aj O P p.1.Warps ∧ Own el3 d w.heap.size Q R p.1.Memory ∧ Blk d ak 33 (bC L N O P Q R p.1), ⟨bK, 0, rfl, bL, b, f, g, i, c, l, m, n, e, k, t, u, v, q⟩, ?_⟩
  rintro bM _ cm ⟨T, rfl, aC, b, f, g, i, c, l, m, n, e, k, t, u, v, q⟩
  have H := aB bM _ aC
  clear aB aC
  try dsimp only at H ⊢
  apply brc H<;>intro h H
  ·obtain ⟨⟨aD, aE⟩, H⟩ := H
   obtain ⟨bN, bO, a7⟩ := Row.at e.row aD aE
   refine ⟨aD, aE, bN, bO, _, (a7 0 _ rfl), _, (a7 1 _ rfl), _, (a7 2 _ rfl), _, (a7 3 _ rfl), ?_⟩
   obtain ⟨⟨aF, aG⟩, H⟩ := H
   obtain ⟨bP, bQ, a8⟩ := Row.at e.row aF aG
   refine ⟨aF, aG, bP, bQ, _, (a8 0 _ rfl), _, (a8 1 _ rfl), _, (a8 2 _ rfl), _, (a8 3 _ rfl), _, qo4 ((rd j.2 T).Phase) ((rd j.2 T).Warp) ((rd j.2 T).Address) ((rd j.2 T).Kind) ((rd j.2 S).Phase) ((rd j.2 S).Warp) ((rd j.2 S).Address) ((rd j.2 S).Kind), ?_⟩
   have f := f.ext (Ext.drew _)
   have g := g.ext (Ext.drew _)
   have i := i.ext (Ext.drew _)
   have c := c.ext (Ext.drew _)
   have l := l.ext (Ext.drew _)
   have m := m.ext (Ext.drew _)
   have n := n.ext (Ext.drew _)
   have e := e.ext (Ext.drew _)
   have k := k.ext (Ext.drew _)
   have t := t.ext (Ext.drew _)
   have u := u.ext (Ext.drew _)
   have v := v.ext (Ext.drew _)
   have q := q.ext (Ext.drew _)
   have b := qa6 b (Ext.drew _)
   apply brc H<;>intro h H
   ·cases z.trans H.symm
    exact ⟨rfl, b⟩
   obtain ⟨bR, bS, bT⟩ := H
   exact ⟨bR, bS, _, rfl, bT, b, f, g, i, c, l, m, n, e, k, t, u, v, q⟩
  obtain ⟨bU, bV, bW⟩ := H
  exact ⟨bU, bV, _, rfl, bW, b, f, g, i, c, l, m, n, e, k, t, u, v, q⟩
 refine ⟨_, _, _, (k.a 0), _, _, _, (k.a 1), _, _, _, (k.a 2), _, (k.a 3), _, (k.a 4), _, _, _, (q.a 0), _, _, _, (q.a 1), _, _, _, (q.a 2), _, (q.a 3), _, (q.a 4), ?_⟩
 obtain ⟨bX, H⟩ := H
 obtain ⟨bY, bZ, H⟩ := qaa H
 refine (qck.con bX bZ l.row l.le m.row m.le n.row n.le t.row t.le u.row u.le v.row v.le).mono ?_
 rintro _ cn ⟨rfl, aH⟩
 have e := e.ext aH
 have b := qa6 b aH
 refine ⟨bY, rfl, ?_⟩
 apply brc H<;>intro h H
 ·obtain ⟨c1, H⟩ := H
  obtain ⟨c2, c3, H⟩ := qaa H
  refine (qbH.con c1 c3 e.row e.le e.row e.le).mono ?_
  rintro _ co ⟨c4, c5, rfl, cp, c6⟩
  have b := qa6 b c6
  refine ⟨c4, c2.length, c5, rfl, ?_⟩
  cases z.trans H.symm
  exact ⟨rfl, b⟩
 cases z.trans H.symm
 exact ⟨rfl, b⟩
end Go.V
