import Derived.Test.YtkpfabigipedcaaNoMath1
import Derived.Test.YtkpfabigipedcaaNoSeat
import Derived.Test.YtkpfabigipedcaaNoVFoc
namespace Go.V
open Go.Proofs
open IntKind (wrap)
set_option linter.unusedVariables false
set_option linter.unusedSimpArgs false
set_option maxRecDepth 100000
def qab.vc (a b c : Int) (w : World) (K : VK) : Prop :=
  qa5 (decide (a ≥ b)) (K (.bool (decide (a ≤ c))) w) (K (.bool false) w)

def qab.ann : Ann := (.seq .l (.seq .l .l))

theorem qab.con {a b c : Int} {r : Bool} {w : World} (d : r = M.qab a b c)  :
    Cl 32 #[(iv a), (iv b), (iv c)] w (fun f g => f = (.bool r) ∧ Ext w g) := by
 have H := wp.qab.math a b c
 have e := Ext.refl w
 refine begK mixed Try.f32 ann (vc a b c) ?_
 unfold vc
 unfold wp.qab at H
 apply brc H<;>intro h H
 ·cases d.trans H.symm
  exact ⟨rfl, e⟩
 cases d.trans H.symm
 exact ⟨rfl, e⟩
def qau.vc (b : Int) (w : World) (K : VK) : Prop :=
  Cl 32 #[(iv b), (iv 0), (iv 65535)] w fun c d => (∃ (a : Bool), c = (.bool a) ∧ K (.bool a) d)

def qau.ann : Ann := (.seq .l (.seq .l .l))

theorem qau.con {a : Int} {r : Bool} {w : World} (b : r = M.qau a)  :
    Cl 56 #[(iv a)] w (fun c d => c = (.bool r) ∧ Ext w d) := by
 have H := wp.qau.math a
 refine begK mixed Try.f56 ann (vc a) ?_
 unfold vc
 unfold wp.qau at H
 obtain ⟨e, f, H⟩ := qap H
 refine (qab.con f ).mono ?_
 rintro _ i ⟨rfl, g⟩
 have h := qam (Ext.refl w) g
 refine ⟨e, rfl, ?_⟩
 cases b.trans H.symm
 exact ⟨rfl, h⟩
def qa7.vc (f : OA) (c m g : Nat) (h : Array Value) (w : World) (K : VK) : Prop :=
  qe9 (σ := Int × Unit) (fun a b i => qa5 (decide (a.1 < ((c : Nat) : Int))) ((idx a.1 c f fun j => ldI b ((j.add ((a.1.toNat) * 1)).add 0) fun k => Cl g (#[(iv k)] ++ h) b fun l d => (∃ (e : Bool), l = (.bool e) ∧ qa5 e (K (iv a.1) d) (i ((wrap .i64 (a.1 + 1)), ()) d)))) (K (iv (-1)) b)) (0, ()) w

def qa7.ann : Ann := (.seq .l (.seq (.seq .l (.one (.loop [(8, .int .i64)] (.seq .l (.seq (.two .l .l) (.seq (.one (.seq .l (.seq .l (.two (.seq .l .l) .l)))) .l)))))) (.seq .l .l)))

theorem qa7.start {A0 : OA} {n0 c0 f1 : Nat} {cap1 : Array Value} {w : World} {K : Value → World → Prop} (h : qa7.vc A0 n0 c0 f1 cap1 w K) : Cl 76 #[(sv A0 n0 c0), (.func (.func f1) #[] cap1)] w K :=
  qcp mixed (fn := Try.f76) (by kernel_rfl) (by kernel_rfl) (an := qa7.ann) (args := [(sv A0 n0 c0), (.func (.func f1) #[] cap1)]) (Eq.mpr (by kernel_rfl) h)

theorem qa7.con {b : List Int} {j : OA} {k l : Nat} {m : Array Value} {d : Int → Bool} {f : Int → Prop} {r : Int} {w : World} (t : M.qbh b d f) (n : r = M.qa7 b d) (u : Row el3 w j b) (Q : b.length ≤ k) (v : ∀ (g : Int), f g → ∀ c : World, Ext w c → Cl l (#[(iv g)] ++ m) c (fun i x => i = (.bool (d g)) ∧ Ext c x)) :
    Cl 76 #[(sv j b.length k), (.func (.func l) #[] m)] w (fun i c => i = (iv r) ∧ Ext w c) := by
 have H := wp.qa7.math b d f t
 have a := Ext.refl w
 refine qa7.start ?_
 unfold vc
 unfold wp.qa7 at H
 obtain ⟨y, ⟨z, A⟩, o⟩ := H
 refine ⟨fun B C c => ∃ (e : Int), C = (e, ()) ∧ y B (e, ()) ∧ Ext w c, ⟨z, 0, rfl, A, a⟩, ?_⟩
 rintro D _ R ⟨e, rfl, p, a⟩
 have H := o D _ p
 clear o p
 try dsimp only at H ⊢
 apply brc H<;>intro h H
 ·obtain ⟨⟨q, s⟩, H⟩ := H
  obtain ⟨E, F, G⟩ := Row.at (u.ext a) q s
  refine ⟨q, s, E, F, _, (G 0 _ rfl), ?_⟩
  obtain ⟨I, H⟩ := H
  obtain ⟨J, K, H⟩ := qap H
  refine (v (rd b e) I _ a).mono ?_
  rintro _ S ⟨rfl, L⟩
  rw [← K]
  have a := qam a L
  refine ⟨J, rfl, ?_⟩
  apply brc H<;>intro h H
  ·cases n.trans H.symm
   exact ⟨rfl, a⟩
  obtain ⟨N, O, P⟩ := H
  exact ⟨N, O, _, rfl, P, a⟩
 cases n.trans H.symm
 exact ⟨rfl, a⟩
def qa6.vc (b : OA) (c d e : Nat) (f : Array Value) (w : World) (K : VK) : Prop :=
  Cl 76 #[(sv b c d), (.func (.func e) #[] f)] w fun g h => (∃ (a : Int), g = (iv a) ∧ K (.bool (decide (a ≥ 0))) h)

def qa6.ann : Ann := (.seq .l (.seq .l .l))

theorem qa6.start {A0 : OA} {n0 c0 f1 : Nat} {cap1 : Array Value} {w : World} {K : Value → World → Prop} (h : qa6.vc A0 n0 c0 f1 cap1 w K) : Cl 73 #[(sv A0 n0 c0), (.func (.func f1) #[] cap1)] w K :=
  qcp mixed (fn := Try.f73) (by kernel_rfl) (by kernel_rfl) (an := qa6.ann) (args := [(sv A0 n0 c0), (.func (.func f1) #[] cap1)]) (Eq.mpr (by kernel_rfl) h)

theorem qa6.con {b : List Int} {h : OA} {i j : Nat} {k : Array Value} {e : Int → Bool} {f : Int → Prop} {r : Bool} {w : World} (l : M.qba b e f) (m : r = M.qa6 b e) (n : Row el3 w h b) (o : b.length ≤ i) (p : ∀ (c : Int), f c → ∀ a : World, Ext w a → Cl j (#[(iv c)] ++ k) a (fun g q => g = (.bool (e c)) ∧ Ext a q)) :
    Cl 73 #[(sv h b.length i), (.func (.func j) #[] k)] w (fun g a => g = (.bool r) ∧ Ext w a) := by
 have H := wp.qa6.math b e f l
 have d := Ext.refl w
 refine qa6.start ?_
 unfold vc
 unfold wp.qa6 at H
 obtain ⟨s, H⟩ := H
 obtain ⟨t, u, H⟩ := qap H
 refine (qa7.con s u (n.ext d) o (fun c  v a x => p c  v a (qam d x))).mono ?_
 rintro _ z ⟨rfl, y⟩
 have d := qam d y
 refine ⟨t, rfl, ?_⟩
 cases m.trans H.symm
 exact ⟨rfl, d⟩
def qaA.vc (b : Int) (w : World) (K : VK) : Prop :=
  Cl 56 #[(iv b)] w fun c d => (∃ (a : Bool), c = (.bool a) ∧ K (.bool (!a)) d)

def qaA.ann : Ann := (.seq .l (.seq .l .l))

theorem qaA.con {a : Int} {r : Bool} {w : World} (b : r = M.qaA a)  :
    Cl 74 #[(iv a)] w (fun c d => c = (.bool r) ∧ Ext w d) := by
 have H := wp.qaA.math a
 refine begK mixed Try.f74 ann (vc a) ?_
 unfold vc
 unfold wp.qaA at H
 obtain ⟨e, f, H⟩ := qap H
 refine (qau.con f ).mono ?_
 rintro _ i ⟨rfl, g⟩
 have h := qam (Ext.refl w) g
 refine ⟨e, rfl, ?_⟩
 cases b.trans H.symm
 exact ⟨rfl, h⟩
def qaQ.vc (b : OA) (c d : Nat) (w : World) (K : VK) : Prop :=
  Cl 73 #[(sv b c d), (.func (.func 74) #[] #[])] w fun e f => (∃ (a : Bool), e = (.bool a) ∧ K (.bool (!a)) f)

def qaQ.ann : Ann := (.seq .l (.seq .l .l))

theorem qaQ.con {a : List Int} {c : OA} {d : Nat} {r : Bool} {w : World} (f : M.qc8 a) (g : r = M.qaQ a) (h : Row el3 w c a) (i : a.length ≤ d) :
    Cl 71 #[(sv c a.length d)] w (fun j e => j = (.bool r) ∧ Ext w e) := by
 have H := wp.qaQ.math a f
 have b := Ext.refl w
 refine begK mixed Try.f71 ann (vc c a.length d) ?_
 unfold vc
 unfold wp.qaQ at H
 obtain ⟨k, H⟩ := H
 obtain ⟨l, m, H⟩ := qap H
 refine (qa6.con k m (h.ext b) i (fun o p e q => qfV (l1 := [_]) (l2 := []) (qaA.con rfl))).mono ?_
 rintro _ s ⟨rfl, n⟩
 have b := qam b n
 refine ⟨l, rfl, ?_⟩
 cases g.trans H.symm
 exact ⟨rfl, b⟩
def qaX.vc (a : Int) (w : World) (K : VK) : Prop :=
  K (iv (qbU .i64 a 65535)) w

def qaX.ann : Ann := (.seq .l (.seq .l .l))

theorem qaX.con {a r : Int} {w : World} (b : r = M.qaX a)  :
    Cl 75 #[(iv a)] w (fun c d => c = (iv r) ∧ Ext w d) := by
 have H := wp.qaX.math a
 have e := Ext.refl w
 refine begK mixed Try.f75 ann (vc a) ?_
 unfold vc
 unfold wp.qaX at H
 cases b.trans H.symm
 exact ⟨rfl, e⟩
def qaq.vc (f g h : Int) (w : World) (K : VK) : Prop :=
  Cl 56 #[(iv f)] w fun i a => (∃ (b : Bool), i = (.bool b) ∧ qa5 (!b) (K (iv 0) a) (Cl 56 #[(iv g)] a fun j c => (∃ (d : Bool), j = (.bool d) ∧ qa5 (!d) (K (iv 0) c) (Cl 75 #[(iv h)] c fun k l => (∃ (e : Int), k = (iv e) ∧ K (iv e) l)))))

def qaq.ann : Ann := (.seq .l (.seq (.seq .l (.two (.seq .l .l) .l)) (.seq .l .l)))

theorem qaq.con {b c d r : Int} {w : World} (e : r = M.qaq b c d)  :
    Cl 72 #[(iv b), (iv c), (iv d)] w (fun f g => f = (iv r) ∧ Ext w g) := by
 have H := wp.qaq.math b c d
 refine begK mixed Try.f72 ann (vc b c d) ?_
 unfold vc
 unfold wp.qaq at H
 obtain ⟨i, j, H⟩ := qap H
 refine (qau.con j ).mono ?_
 rintro _ s ⟨rfl, k⟩
 have a := qam (Ext.refl w) k
 refine ⟨i, rfl, ?_⟩
 apply brc H<;>intro h H
 ·cases e.trans H.symm
  exact ⟨rfl, a⟩
 obtain ⟨l, m, H⟩ := qap H
 refine (qau.con m ).mono ?_
 rintro _ t ⟨rfl, n⟩
 have a := qam a n
 refine ⟨l, rfl, ?_⟩
 apply brc H<;>intro h H
 ·cases e.trans H.symm
  exact ⟨rfl, a⟩
 obtain ⟨o, p, H⟩ := qap H
 refine (qaX.con p ).mono ?_
 rintro _ u ⟨rfl, q⟩
 have a := qam a q
 refine ⟨o, rfl, ?_⟩
 cases e.trans H.symm
 exact ⟨rfl, a⟩
def qaN.vc (a b : Int) (w : World) (K : VK) : Prop :=
  Cl 72 #[(iv a), (iv b), (iv (wrap .i64 (a + b)))] w fun d e => (∃ (c : Int), d = (iv c) ∧ K (iv c) e)

def qaN.ann : Ann := (.seq .l (.seq .l .l))

theorem qaN.con {a b r : Int} {w : World} (c : r = M.qaN a b)  :
    Cl 67 #[(iv a), (iv b)] w (fun d e => d = (iv r) ∧ Ext w e) := by
 have H := wp.qaN.math a b
 refine begK mixed Try.f67 ann (vc a b) ?_
 unfold vc
 unfold wp.qaN at H
 obtain ⟨f, g, H⟩ := qap H
 refine (qaq.con g ).mono ?_
 rintro _ j ⟨rfl, h⟩
 have i := qam (Ext.refl w) h
 refine ⟨f, rfl, ?_⟩
 cases c.trans H.symm
 exact ⟨rfl, i⟩
def qax.vc (b : Int) (w : World) (K : VK) : Prop :=
  Cl 32 #[(iv b), (iv 0), (iv 23)] w fun c d => (∃ (a : Bool), c = (.bool a) ∧ K (.bool a) d)

def qax.ann : Ann := (.seq .l (.seq .l .l))

theorem qax.con {a : Int} {r : Bool} {w : World} (b : r = M.qax a)  :
    Cl 48 #[(iv a)] w (fun c d => c = (.bool r) ∧ Ext w d) := by
 have H := wp.qax.math a
 refine begK mixed Try.f48 ann (vc a) ?_
 unfold vc
 unfold wp.qax at H
 obtain ⟨e, f, H⟩ := qap H
 refine (qab.con f ).mono ?_
 rintro _ i ⟨rfl, g⟩
 have h := qam (Ext.refl w) g
 refine ⟨e, rfl, ?_⟩
 cases b.trans H.symm
 exact ⟨rfl, h⟩
def qaZ.vc (d : Int) (w : World) (K : VK) : Prop :=
  newK w (.cells #[(iv 0), (iv 0), (sv none 0 0)] 78) fun a g => Cl 48 #[(iv d)] g fun h e => (∃ (f : Bool), h = (.bool f) ∧ qa5 (!f) (qag (bx a) [(iv 0), (iv 0), (sv none 0 0)] 0 e fun b => ldI b ((bx a).add 0) fun i => ldI b ((bx a).add 1) fun j => ldS b ((bx a).add 2) fun k l m => K (.agg #[(iv i), (iv j), (sv k l m)]) b) (qeX Try.prog 37 4 4 e fun n o => qag (bx a) [(iv d), (iv 0), (sv (some (bx n)) ((4 : Int).toNat) ((4 : Int).toNat))] 0 o fun c => ldI c ((bx a).add 0) fun p => ldI c ((bx a).add 1) fun q => ldS c ((bx a).add 2) fun r s t => K (.agg #[(iv p), (iv q), (sv r s t)]) c))

def qaZ.ann : Ann := (.seq .l (.seq (.seq .l (.two (.seq .l .l) .l)) (.seq .l .l)))

theorem qaZ.con {d : Int} {r : D.Lane} {w : World} (g : r = M.qaZ d)  :
    Cl 59 #[(iv d)] w (fun s i => ∃ (j : OA) (k : Nat), s = (.agg #[(iv r.Thread), (iv r.Pc), (sv j r.Regs.length k)]) ∧ Own el3 i w.heap.size j k r.Regs ∧ Ext w i) := by
 have H := wp.qaZ.math d
 have c := Ext.refl w
 refine begK mixed Try.f59 ann (vc d) ?_
 unfold vc
 unfold wp.qaZ at H
 refine qbE (fun C E e t u => ?_)
 have e := Nat.le_trans c.size e
 obtain ⟨v, x, H⟩ := qap H
 refine (qax.con x ).mono ?_
 rintro _ F ⟨rfl, l⟩
 have b := t.ext l
 have c := qam (qam c u) l
 refine ⟨v, rfl, ?_⟩
 apply brc H<;>intro h H
 ·refine qcb b (o := 0) (cs' := #[(iv 0), (iv 0), (sv none 0 0)]) rfl rfl (Nat.le_of_ble_eq_true rfl) rfl (fun G b y => ?_)
  have c := echg c y e
  refine ⟨_, (b.a 0), _, (b.a 1), _, _, _, (b.a 2), ?_⟩
  cases g.trans H.symm
  exact ⟨none, 0, rfl, Own.nil, c⟩
 obtain ⟨⟨z, A⟩, H⟩ := H
 refine qgG qgf z A (fun m I n p => ?_)
 have B := n.qbk b.lt
 have b := b.ext p
 have f := n.mono c.size
 have c := qam c p
 refine qcb b (o := 0) (cs' := #[(iv d), (iv 0), (sv (some (bx m)) ((4 : Int).toNat) ((4 : Int).toNat))]) rfl rfl (Nat.le_of_ble_eq_true rfl) rfl (fun J b q => ?_)
 have f := f.chg q B
 have c := echg c q e
 refine ⟨_, (b.a 0), _, (b.a 1), _, _, _, (b.a 2), ?_⟩
 cases g.trans H.symm
 exact ⟨(some (bx m)), ((4 : Int).toNat), (by first | rfl | (simp; done) | (simp; omega) | (simp [*]; done)), (by first | exact f | (simp only [bC, wC, List.length_set]; exact f)), c⟩
def qak.vc (a : OA) (h i : Nat) (w : World) (K : VK) : Prop :=
  qa5 (Option.isNone a) (K (sv none 0 0) w) (Run Try.prog (Instr.buildSlice 37 0 #[]) w fun j k => ∃ (b : OA) (c d : Nat), j = .slice b c d ∧ Run Try.prog (Builtin.append_ #[37, 37] 37 #[(sv b c d), (sv a h i)]) k fun l m => ∃ (e : OA) (f g : Nat), l = .slice e f g ∧ K (sv e f g) m)

def qak.ann : Ann := (.seq .l (.seq (.seq .l (.two (.seq .l .l) .l)) (.seq .l .l)))

theorem qak.con {b r : List Int} {c : OA} {e : Nat} {w : World} (n : M.qbe b) (g : r = M.qak b) (i : Row el3 w c b) (z : b.length ≤ e) :
    Cl 63 #[(sv c b.length e)] w (fun o j => ∃ (k : OA) (l : Nat), o = (sv k r.length l) ∧ Own el3 j w.heap.size k l r ∧ Ext w j) := by
 have H := wp.qak.math b n
 have a := Ext.refl w
 refine begK mixed Try.f63 ann (vc c b.length e) ?_
 unfold vc
 unfold wp.qak at H
 obtain ⟨p, m⟩ : ∃ q, q = Option.isNone c := ⟨_, rfl⟩
 have H := H p (fun s => Row.isNone (i.ext a) (m.symm.trans s))
 rw [← m]
 apply brc H<;>intro h H
 ·cases g.trans H.symm
  exact ⟨none, 0, rfl, Own.nil, a⟩
 refine qbo el3 ([] : List Int) (fun _ => by kernel_rfl) rfl (fun A B f t => ?_)
 have d := f.mono a.size
 have a := qam a t
 obtain ⟨u, H⟩ := H
 refine appO qgf d (i.ext a) a.size u (fun v x C f y => ?_)
 have a := eapp a y d
 have d := f
 cases g.trans H.symm
 exact ⟨v, x, rfl, d, a⟩
def qb1.vc (i j : Int) (k : OA) (l m : Nat) (w : World) (K : VK) : Prop :=
  newK w (.cells #[(iv i), (iv j), (sv k l m)] 78) fun a n => newK n (.cells #[(iv 0), (iv 0), (sv none 0 0)] 78) fun b e => ldS e (((bx a).add 2).add 0) fun o p q => Cl 63 #[(sv o p q)] e fun r s => (∃ (f : OA) (g h : Nat), r = (sv f g h) ∧ qag ((bx a).add 2) [(sv f g h)] 0 s fun c => ldI c ((bx a).add 0) fun t => ldI c ((bx a).add 1) fun u => ldS c ((bx a).add 2) fun v x y => qag (bx b) [(iv t), (iv u), (sv v x y)] 0 c fun d => ldI d ((bx b).add 0) fun z => ldI d ((bx b).add 1) fun A => ldS d ((bx b).add 2) fun B C D => K (.agg #[(iv z), (iv A), (sv B C D)]) d)

def qb1.ann : Ann := (.seq .l (.seq .l (.seq .l .l)))

theorem qb1.con {b r : D.Lane} {i : OA} {j : Nat} {w : World} (y : M.qcd b) (z : r = M.qb1 b) (A : Row el3 w i b.Regs) (B : b.Regs.length ≤ j) :
    Cl 60 #[(.agg #[(iv b.Thread), (iv b.Pc), (sv i b.Regs.length j)])] w (fun C s => ∃ (t : OA) (u : Nat), C = (.agg #[(iv r.Thread), (iv r.Pc), (sv t r.Regs.length u)]) ∧ Own el3 s w.heap.size t u r.Regs ∧ Ext w s) := by
 have H := wp.qb1.math b y
 have c := Ext.refl w
 refine begK mixed Try.f60 ann (vc b.Thread b.Pc i b.Regs.length j) ?_
 unfold vc
 unfold wp.qb1 at H
 refine qbE (fun P Q k E F => ?_)
 have d := E
 have k := Nat.le_trans c.size k
 have c := qam c F
 refine qbE (fun R S f G v => ?_)
 have I := d.ne f
 have d := d.ext v
 have e := G
 have f := Nat.le_trans c.size f
 have c := qam c v
 refine ⟨_, _, _, (d.a 2), ?_⟩
 obtain ⟨J, H⟩ := H
 obtain ⟨l, K, H⟩ := qap H
 refine (qak.con J K (A.ext c) B).mono ?_
 rintro _ T ⟨g, h, rfl, m, n⟩
 have L := m.qbk d.lt
 have N := m.qbk e.lt
 have d := d.ext n
 have p := m.mono c.size
 have c := qam c n
 refine ⟨g, l.length, h, rfl, ?_⟩
 refine qcb d (o := 2) (cs' := #[(iv b.Thread), (iv b.Pc), (sv g l.length h)]) rfl rfl (Nat.le_of_ble_eq_true rfl) rfl (fun U d q => ?_)
 have e := (e.ext n).chg q (I).symm
 have O := p.chg q L
 have c := echg c q k
 refine ⟨_, (d.a 0), _, (d.a 1), _, _, _, (d.a 2), ?_⟩
 refine qcb e (o := 0) (cs' := #[(iv b.Thread), (iv b.Pc), (sv g l.length h)]) rfl rfl (Nat.le_of_ble_eq_true rfl) rfl (fun V e x => ?_)
 have p := O.chg x N
 have c := echg c x f
 refine ⟨_, (e.a 0), _, (e.a 1), _, _, _, (e.a 2), ?_⟩
 cases z.trans H.symm
 exact ⟨g, h, rfl, p, c⟩
def qbb.vc (a : Int) (w : World) (K : VK) : Prop :=
  Cl 32 #[(iv a), (iv 0), (iv 16)] w fun h b => (∃ (c : Bool), h = (.bool c) ∧ qa5 (!c) (K (.string (⟨#[]⟩)) b) (Run Try.prog (Instr.buildSlice 87 17 #[(0, (.string (⟨#[45, 45, 45]⟩))), (1, (.string (⟨#[82, 87, 45]⟩))), (2, (.string (⟨#[82, 82, 45]⟩))), (3, (.string (⟨#[82, 82, 82]⟩))), (4, (.string (⟨#[82, 82, 82]⟩))), (5, (.string (⟨#[82, 82, 82]⟩))), (6, (.string (⟨#[82, 82, 82]⟩))), (7, (.string (⟨#[82, 82, 82]⟩))), (8, (.string (⟨#[82, 45, 45]⟩))), (9, (.string (⟨#[82, 82, 82]⟩))), (10, (.string (⟨#[82, 84, 45]⟩))), (11, (.string (⟨#[45, 84, 45]⟩))), (12, (.string (⟨#[45, 45, 45]⟩))), (13, (.string (⟨#[82, 82, 45]⟩))), (14, (.string (⟨#[82, 82, 45]⟩))), (15, (.string (⟨#[82, 82, 45]⟩))), (16, (.string (⟨#[45, 45, 45]⟩)))]) b fun i d => ∃ (e : OA) (f j : Nat), i = .slice e f j ∧ (idx a f e fun k => ∃ (g : ByteArray), d.cell? ((k.add ((a.toNat) * 1)).add 0) = some (.string g) ∧ K (.string g) d)))

def qbb.ann : Ann := (.seq .l (.seq (.seq .l (.two (.seq .l .l) .l)) (.seq .l .l)))

theorem qbb.con {b : Int} {r : ByteArray} {w : World} (d : r = M.qbb b)  :
    Cl 51 #[(iv b)] w (fun f g => f = (.string r) ∧ Ext w g) := by
 have H := wp.qbb.math b
 refine begK mixed Try.f51 ann (vc b) ?_
 unfold vc
 unfold wp.qbb at H
 obtain ⟨i, j, H⟩ := qap H
 refine (qab.con j ).mono ?_
 rintro _ s ⟨rfl, k⟩
 have a := qam (Ext.refl w) k
 refine ⟨i, rfl, ?_⟩
 apply brc H<;>intro h H
 ·cases d.trans H.symm
  exact ⟨rfl, a⟩
 refine qbo el9 ([⟨#[45, 45, 45]⟩, ⟨#[82, 87, 45]⟩, ⟨#[82, 82, 45]⟩, ⟨#[82, 82, 82]⟩, ⟨#[82, 82, 82]⟩, ⟨#[82, 82, 82]⟩, ⟨#[82, 82, 82]⟩, ⟨#[82, 82, 82]⟩, ⟨#[82, 45, 45]⟩, ⟨#[82, 82, 82]⟩, ⟨#[82, 84, 45]⟩, ⟨#[45, 84, 45]⟩, ⟨#[45, 45, 45]⟩, ⟨#[82, 82, 45]⟩, ⟨#[82, 82, 45]⟩, ⟨#[82, 82, 45]⟩, ⟨#[45, 45, 45]⟩] : List ByteArray) (fun _ => by kernel_rfl) rfl (fun t u l m => ?_)
 have n := l.mono a.size
 have a := qam a m
 obtain ⟨⟨e, c⟩, H⟩ := H
 obtain ⟨o, p, q⟩ := Row.at n.row e c
 refine ⟨e, (by first | exact c | omega | (simp at c ⊢; omega)), o, p, _, (q 0 _ rfl), ?_⟩
 cases d.trans H.symm
 exact ⟨rfl, a⟩
def qbi.vc (b : Int) (w : World) (K : VK) : Prop :=
  Cl 32 #[(iv b), (iv 0), (iv 3)] w fun c d => (∃ (a : Bool), c = (.bool a) ∧ K (.bool a) d)

def qbi.ann : Ann := (.seq .l (.seq .l .l))

theorem qbi.con {a : Int} {r : Bool} {w : World} (b : r = M.qbi a)  :
    Cl 55 #[(iv a)] w (fun c d => c = (.bool r) ∧ Ext w d) := by
 have H := wp.qbi.math a
 refine begK mixed Try.f55 ann (vc a) ?_
 unfold vc
 unfold wp.qbi at H
 obtain ⟨e, f, H⟩ := qap H
 refine (qab.con f ).mono ?_
 rintro _ i ⟨rfl, g⟩
 have h := qam (Ext.refl w) g
 refine ⟨e, rfl, ?_⟩
 cases b.trans H.symm
 exact ⟨rfl, h⟩
def qac.vc (b a f : Int) (w : World) (K : VK) : Prop :=
  qa5 (b == 82) (Cl 55 #[(iv a)] w fun g h => (∃ (c : Bool), g = (.bool c) ∧ K (.bool c) h)) (qa5 (b == 87) (Cl 56 #[(iv a)] w fun i j => (∃ (d : Bool), i = (.bool d) ∧ K (.bool d) j)) (qa5 (b == 84) (Cl 32 #[(iv a), (iv 0), (iv f)] w fun k l => (∃ (e : Bool), k = (.bool e) ∧ K (.bool e) l)) (K (.bool (a == 0)) w)))

def qac.ann : Ann := (.seq .l (.seq (.seq .l (.one (.seq .l (.two (.seq .l .l) (.seq .l (.two (.seq .l .l) (.seq .l (.two (.seq .l .l) .l)))))))) (.seq .l .l)))

theorem qac.con {b c d : Int} {r : Bool} {w : World} (f : M.qb7 b c d) (e : r = M.qac b c d)  :
    Cl 52 #[(.int .u8 b), (iv c), (iv d)] w (fun g i => g = (.bool r) ∧ Ext w i) := by
 have H := wp.qac.math b c d f
 have a := Ext.refl w
 refine begK mixed Try.f52 ann (vc b c d) ?_
 unfold vc
 unfold wp.qac at H
 apply brc H<;>intro h H
 ·obtain ⟨j, k, H⟩ := qap H
  refine (qbi.con k ).mono ?_
  rintro _ t ⟨rfl, l⟩
  have a := qam a l
  refine ⟨j, rfl, ?_⟩
  cases e.trans H.symm
  exact ⟨rfl, a⟩
 apply brc H<;>intro h H
 ·obtain ⟨m, n, H⟩ := qap H
  refine (qau.con n ).mono ?_
  rintro _ u ⟨rfl, o⟩
  have a := qam a o
  refine ⟨m, rfl, ?_⟩
  cases e.trans H.symm
  exact ⟨rfl, a⟩
 apply brc H<;>intro h H
 ·obtain ⟨p, q, H⟩ := qap H
  refine (qab.con q ).mono ?_
  rintro _ v ⟨rfl, s⟩
  have a := qam a s
  refine ⟨p, rfl, ?_⟩
  cases e.trans H.symm
  exact ⟨rfl, a⟩
 cases e.trans H.symm
 exact ⟨rfl, a⟩
def qah.vc (p q r s b : Int) (w : World) (K : VK) : Prop :=
  newK w (.cells #[(iv p), (iv q), (iv r), (iv s)] 60) fun c g => ldI g (((bx c).add 0).add 0) fun t => Cl 51 #[(iv t)] g fun u h => (∃ (a : ByteArray), u = (.string a) ∧ qa5 (!(ByteArray.toList a == ByteArray.toList (⟨#[]⟩))) (((Cl 32 #[(iv b), (iv 0), (iv 32)] h.drew fun v d => (∃ (i : Bool), v = (.bool i) ∧ qa5 i (((0 : Int) ≤ 0 ∧ ∃ j : UInt8, (a : ByteArray)[((0 : Int).toNat)]? = some j ∧ ((ldI d (((bx c).add 1).add 0) fun x => ((Cl 52 #[(.int .u8 ((j.toNat : Nat) : Int)), (iv x), (iv b)] d fun y e => (∃ (k : Bool), y = (.bool k) ∧ qa5 k (((0 : Int) ≤ 1 ∧ ∃ l : UInt8, (a : ByteArray)[((1 : Int).toNat)]? = some l ∧ ((ldI e (((bx c).add 2).add 0) fun z => ((Cl 52 #[(.int .u8 ((l.toNat : Nat) : Int)), (iv z), (iv b)] e fun A f => (∃ (m : Bool), A = (.bool m) ∧ qa5 m (((0 : Int) ≤ 2 ∧ ∃ n : UInt8, (a : ByteArray)[((2 : Int).toNat)]? = some n ∧ ((ldI f (((bx c).add 3).add 0) fun B => ((Cl 52 #[(.int .u8 ((n.toNat : Nat) : Int)), (iv B), (iv b)] f fun C D => (∃ (o : Bool), C = (.bool o) ∧ K (.bool o) D)) ∧ True)) ∧ True))) (((((K (.bool false) f) ∧ True)) ∧ True)))) ∧ True)) ∧ True))) (((((((((K (.bool false) e) ∧ True)) ∧ True)) ∧ True)) ∧ True)))) ∧ True)) ∧ True))) (((((((((((((K (.bool false) d) ∧ True)) ∧ True)) ∧ True)) ∧ True)) ∧ True)) ∧ True)))) ∧ True)) (((((((((((((((K (.bool false) h.drew) ∧ True)) ∧ True)) ∧ True)) ∧ True)) ∧ True)) ∧ True)) ∧ True)))

def qah.ann : Ann := (.seq .l (.seq .l (.seq .each .l)))

theorem qah.con {d : D.Ins} {f : Int} {r : Bool} {w : World} (e : r = M.qah d f)  :
    Cl 44 #[(.agg (iC d)), (iv f)] w (fun o p => o = (.bool r) ∧ Ext w p) := by
 have H := wp.qah.math d f
 refine begK mixed Try.f44 ann (vc d.Op d.A d.B d.C f) ?_
 unfold vc
 unfold wp.qah at H
 refine qbE (fun Z a0 L1 c q => ?_)
 refine ⟨_, (c.a 0), ?_⟩
 obtain ⟨s, t, H⟩ := qap H
 refine (qbb.con t ).mono ?_
 rintro _ a1 ⟨rfl, g⟩
 refine ⟨s, rfl, ?_⟩
 have c := (c.ext g).ext (Ext.drew _)
 have b := qam (qam (qam (Ext.refl w) q) g) (Ext.drew _)
 apply brc H<;>intro h H
 ·refine qch ?_
  obtain ⟨u, v, H⟩ := qap H
  refine (qab.con v ).mono ?_
  rintro _ a2 ⟨rfl, i⟩
  have c := c.ext i
  have b := qam b i
  refine ⟨u, rfl, ?_⟩
  apply brc H<;>intro h H
  ·obtain ⟨⟨j, x⟩, H⟩ := H
   obtain ⟨y, z, E⟩ := qgD j x
   refine ⟨j, y, z, ?_⟩
   rw [E]
   refine qch ?_
   refine ⟨_, (c.a 1), ?_⟩
   refine qch ?_
   obtain ⟨F, H⟩ := H
   obtain ⟨G, I, H⟩ := qap H
   refine (qac.con F I ).mono ?_
   rintro _ a3 ⟨rfl, k⟩
   have c := c.ext k
   have b := qam b k
   refine ⟨G, rfl, ?_⟩
   apply brc H<;>intro h H
   ·obtain ⟨⟨l, J⟩, H⟩ := H
    obtain ⟨K, L, N⟩ := qgD l J
    refine ⟨l, K, L, ?_⟩
    rw [N]
    refine qch ?_
    refine ⟨_, (c.a 2), ?_⟩
    refine qch ?_
    obtain ⟨O, H⟩ := H
    obtain ⟨P, Q, H⟩ := qap H
    refine (qac.con O Q ).mono ?_
    rintro _ a4 ⟨rfl, m⟩
    have c := c.ext m
    have b := qam b m
    refine ⟨P, rfl, ?_⟩
    apply brc H<;>intro h H
    ·obtain ⟨⟨n, R⟩, H⟩ := H
     obtain ⟨S, T, U⟩ := qgD n R
     refine ⟨n, S, T, ?_⟩
     rw [U]
     refine qch ?_
     refine ⟨_, (c.a 3), ?_⟩
     refine qch ?_
     obtain ⟨V, H⟩ := H
     obtain ⟨W, X, H⟩ := qap H
     refine (qac.con V X ).mono ?_
     rintro _ a5 ⟨rfl, Y⟩
     have b := qam b Y
     refine ⟨W, rfl, ?_⟩
     cases e.trans H.symm
     exact ⟨rfl, b⟩
    refine qch ?_
    refine qch ?_
    cases e.trans H.symm
    exact ⟨rfl, b⟩
   refine qch ?_
   refine qch ?_
   refine qch ?_
   refine qch ?_
   cases e.trans H.symm
   exact ⟨rfl, b⟩
  refine qch ?_
  refine qch ?_
  refine qch ?_
  refine qch ?_
  refine qch ?_
  refine qch ?_
  cases e.trans H.symm
  exact ⟨rfl, b⟩
 refine qch ?_
 refine qch ?_
 refine qch ?_
 refine qch ?_
 refine qch ?_
 refine qch ?_
 refine qch ?_
 cases e.trans H.symm
 exact ⟨rfl, b⟩
def qat.vc (d e f g : Int) (h : Addr) (w : World) (K : VK) : Prop :=
  newK w (.cells #[(iv d), (iv e), (iv f), (iv g)] 60) fun b a => ldI a ((bx b).add 0) fun i => ldI a ((bx b).add 1) fun j => ldI a ((bx b).add 2) fun k => ldI a ((bx b).add 3) fun l => ldS a (h.add 0) fun p m q => Cl 44 #[(.agg #[(iv i), (iv j), (iv k), (iv l)]), (iv ((m : Nat) : Int))] a fun n o => (∃ (c : Bool), n = (.bool c) ∧ K (.bool (!c)) o)

def qat.ann : Ann := (.seq .l (.seq .l .l))

theorem qat.con {b : D.Ins} {c : List D.Ins} {e g : Nat} {h : OA} {r : Bool} {w : World} (j : r = M.qat b c) (f : Blk w e 35 #[(sv h c.length g)]) (q : Row el60 w h c) (s : c.length ≤ g) :
    Cl 43 #[(.agg (iC b)), (.pointer (some (bx e)))] w (fun k l => k = (.bool r) ∧ Ext w l) := by
 have H := wp.qat.math b c
 refine begK mixed Try.f43 ann (vc b.Op b.A b.B b.C (bx e)) ?_
 unfold vc
 unfold wp.qat at H
 refine qbE (fun t u v d i => ?_)
 have f := f.ext i
 refine ⟨_, (d.a 0), _, (d.a 1), _, (d.a 2), _, (d.a 3), _, _, _, (f.a 0), ?_⟩
 obtain ⟨m, n, H⟩ := qap H
 refine (qah.con n ).mono ?_
 rintro _ x ⟨rfl, o⟩
 have p := qam (qam (Ext.refl w) i) o
 refine ⟨m, rfl, ?_⟩
 cases j.trans H.symm
 exact ⟨rfl, p⟩
def qa2.vc (g : OA) (d p h : Nat) (i : Array Value) (w : World) (K : VK) : Prop :=
  qe9 (σ := Int × Unit) (fun a b j => qa5 (decide (a.1 < ((d : Nat) : Int))) ((idx a.1 d g fun c => ldI b ((c.add ((a.1.toNat) * 4)).add 0) fun k => ldI b ((c.add ((a.1.toNat) * 4)).add 1) fun l => ldI b ((c.add ((a.1.toNat) * 4)).add 2) fun m => ldI b ((c.add ((a.1.toNat) * 4)).add 3) fun n => Cl h (#[(.agg #[(iv k), (iv l), (iv m), (iv n)])] ++ i) b fun o e => (∃ (f : Bool), o = (.bool f) ∧ qa5 f (K (iv a.1) e) (j ((wrap .i64 (a.1 + 1)), ()) e)))) (K (iv (-1)) b)) (0, ()) w

def qa2.ann : Ann := (.seq .l (.seq (.seq .l (.one (.loop [(8, .int .i64)] (.seq .l (.seq (.two .l .l) (.seq (.one (.seq .l (.seq .l (.two (.seq .l .l) .l)))) .l)))))) (.seq .l .l)))

theorem qa2.start {A0 : OA} {n0 c0 f1 : Nat} {cap1 : Array Value} {w : World} {K : Value → World → Prop} (h : qa2.vc A0 n0 c0 f1 cap1 w K) : Cl 47 #[(sv A0 n0 c0), (.func (.func f1) #[] cap1)] w K :=
  qcp mixed (fn := Try.f47) (by kernel_rfl) (by kernel_rfl) (an := qa2.ann) (args := [(sv A0 n0 c0), (.func (.func f1) #[] cap1)]) (Eq.mpr (by kernel_rfl) h)

theorem qa2.con {b : List D.Ins} {k : OA} {l m : Nat} {n : Array Value} {d : D.Ins → Bool} {g : D.Ins → Prop} {r : Int} {w : World} (u : M.qaW b d g) (o : r = M.qa2 b d) (v : Row el60 w k b) (R : b.length ≤ l) (x : ∀ (i : D.Ins), g i → ∀ c : World, Ext w c → Cl m (#[(.agg (iC i))] ++ n) c (fun j y => j = (.bool (d i)) ∧ Ext c y)) :
    Cl 47 #[(sv k b.length l), (.func (.func m) #[] n)] w (fun j c => j = (iv r) ∧ Ext w c) := by
 have H := wp.qa2.math b d g u
 have a := Ext.refl w
 refine qa2.start ?_
 unfold vc
 unfold wp.qa2 at H
 obtain ⟨z, ⟨A, B⟩, p⟩ := H
 refine ⟨fun C E c => ∃ (e : Int), E = (e, ()) ∧ z C (e, ()) ∧ Ext w c, ⟨A, 0, rfl, B, a⟩, ?_⟩
 rintro F _ S ⟨e, rfl, q, a⟩
 have H := p F _ q
 clear p q
 try dsimp only at H ⊢
 apply brc H<;>intro h H
 ·obtain ⟨⟨s, t⟩, H⟩ := H
  obtain ⟨G, I, f⟩ := Row.at (v.ext a) s t
  refine ⟨s, t, G, I, _, (f 0 _ rfl), _, (f 1 _ rfl), _, (f 2 _ rfl), _, (f 3 _ rfl), ?_⟩
  obtain ⟨J, H⟩ := H
  obtain ⟨K, L, H⟩ := qap H
  refine (x (rd b e) J _ a).mono ?_
  rintro _ T ⟨rfl, N⟩
  rw [← L]
  have a := qam a N
  refine ⟨K, rfl, ?_⟩
  apply brc H<;>intro h H
  ·cases o.trans H.symm
   exact ⟨rfl, a⟩
  obtain ⟨O, P, Q⟩ := H
  exact ⟨O, P, _, rfl, Q, a⟩
 cases o.trans H.symm
 exact ⟨rfl, a⟩
def qa1.vc (b : OA) (c d e : Nat) (f : Array Value) (w : World) (K : VK) : Prop :=
  Cl 47 #[(sv b c d), (.func (.func e) #[] f)] w fun g h => (∃ (a : Int), g = (iv a) ∧ K (.bool (decide (a ≥ 0))) h)

def qa1.ann : Ann := (.seq .l (.seq .l .l))

theorem qa1.start {A0 : OA} {n0 c0 f1 : Nat} {cap1 : Array Value} {w : World} {K : Value → World → Prop} (h : qa1.vc A0 n0 c0 f1 cap1 w K) : Cl 35 #[(sv A0 n0 c0), (.func (.func f1) #[] cap1)] w K :=
  qcp mixed (fn := Try.f35) (by kernel_rfl) (by kernel_rfl) (an := qa1.ann) (args := [(sv A0 n0 c0), (.func (.func f1) #[] cap1)]) (Eq.mpr (by kernel_rfl) h)

theorem qa1.con {b : List D.Ins} {h : OA} {i j : Nat} {k : Array Value} {e : D.Ins → Bool} {f : D.Ins → Prop} {r : Bool} {w : World} (l : M.qaw b e f) (m : r = M.qa1 b e) (n : Row el60 w h b) (o : b.length ≤ i) (p : ∀ (c : D.Ins), f c → ∀ a : World, Ext w a → Cl j (#[(.agg (iC c))] ++ k) a (fun g q => g = (.bool (e c)) ∧ Ext a q)) :
    Cl 35 #[(sv h b.length i), (.func (.func j) #[] k)] w (fun g a => g = (.bool r) ∧ Ext w a) := by
 have H := wp.qa1.math b e f l
 have d := Ext.refl w
 refine qa1.start ?_
 unfold vc
 unfold wp.qa1 at H
 obtain ⟨s, H⟩ := H
 obtain ⟨t, u, H⟩ := qap H
 refine (qa2.con s u (n.ext d) o (fun c  v a x => p c  v a (qam d x))).mono ?_
 rintro _ z ⟨rfl, y⟩
 have d := qam d y
 refine ⟨t, rfl, ?_⟩
 cases m.trans H.symm
 exact ⟨rfl, d⟩
def qan.vc (d : OA) (e f : Nat) (w : World) (K : VK) : Prop :=
  newK w (.cells #[(sv d e f)] 35) fun b a => ldS a ((bx b).add 0) fun m g n => qa5 (decide (((g : Nat) : Int) ≤ 32)) (ldS a ((bx b).add 0) fun h i j => Cl 35 #[(sv h i j), (.func (.func 43) #[] #[(.pointer (some (bx b)))])] a fun k l => (∃ (c : Bool), k = (.bool c) ∧ K (.bool (!c)) l)) (K (.bool false) a)

def qan.ann : Ann := (.seq .l (.seq .l .l))

theorem qan.con {b : List D.Ins} {d : OA} {e : Nat} {r : Bool} {w : World} (m : M.qbd b) (g : r = M.qan b) (i : Row el60 w d b) (j : b.length ≤ e) :
    Cl 31 #[(sv d b.length e)] w (fun n k => n = (.bool r) ∧ Ext w k) := by
 have H := wp.qan.math b m
 refine begK mixed Try.f31 ann (vc d b.length e) ?_
 unfold vc
 unfold wp.qan at H
 refine qbE (fun u v x f o => ?_)
 have c := qam (Ext.refl w) o
 refine ⟨_, _, _, (f.a 0), ?_⟩
 apply brc H<;>intro h H
 ·refine ⟨_, _, _, (f.a 0), ?_⟩
  obtain ⟨p, H⟩ := H
  obtain ⟨q, s, H⟩ := qap H
  refine (qa1.con p s (i.ext c) j (fun y z k l => qfV (l1 := [_]) (l2 := [_]) (qat.con rfl (f.ext l) (i.ext (qam c l)) j))).mono ?_
  rintro _ A ⟨rfl, t⟩
  have c := qam c t
  refine ⟨q, rfl, ?_⟩
  cases g.trans H.symm
  exact ⟨rfl, c⟩
 cases g.trans H.symm
 exact ⟨rfl, c⟩
def qb0.vc (c d e f : Int) (w : World) (K : VK) : Prop :=
  newK w (.cells #[(iv c), (iv d), (iv e), (iv f)] 60) fun g a => ldI a (((bx g).add 0).add 0) fun h => Cl 32 #[(iv h), (iv 0), (iv 12)] a fun i j => (∃ (b : Bool), i = (.bool b) ∧ K (.bool b) j)

def qb0.ann : Ann := (.seq .l (.seq .l .l))

theorem qb0.con {b : D.Ins} {r : Bool} {w : World} (c : r = M.qb0 b)  :
    Cl 37 #[(.agg (iC b))] w (fun d e => d = (.bool r) ∧ Ext w e) := by
 have H := wp.qb0.math b
 refine begK mixed Try.f37 ann (vc b.Op b.A b.B b.C) ?_
 unfold vc
 unfold wp.qb0 at H
 refine qbE (fun l m n f g => ?_)
 refine ⟨_, (f.a 0), ?_⟩
 obtain ⟨h, i, H⟩ := qap H
 refine (qab.con i ).mono ?_
 rintro _ o ⟨rfl, j⟩
 have k := qam (qam (Ext.refl w) g) j
 refine ⟨h, rfl, ?_⟩
 cases c.trans H.symm
 exact ⟨rfl, k⟩
def qaE.vc (d e f g : Int) (w : World) (K : VK) : Prop :=
  newK w (.cells #[(iv d), (iv e), (iv f), (iv g)] 60) fun b a => ldI a ((bx b).add 0) fun h => ldI a ((bx b).add 1) fun i => ldI a ((bx b).add 2) fun j => ldI a ((bx b).add 3) fun k => Cl 37 #[(.agg #[(iv h), (iv i), (iv j), (iv k)])] a fun l m => (∃ (c : Bool), l = (.bool c) ∧ K (.bool (!c)) m)

def qaE.ann : Ann := (.seq .l (.seq .l .l))

theorem qaE.con {b : D.Ins} {r : Bool} {w : World} (d : r = M.qaE b)  :
    Cl 36 #[(.agg (iC b))] w (fun e f => e = (.bool r) ∧ Ext w f) := by
 have H := wp.qaE.math b
 refine begK mixed Try.f36 ann (vc b.Op b.A b.B b.C) ?_
 unfold vc
 unfold wp.qaE at H
 refine qbE (fun l m n c g => ?_)
 refine ⟨_, (c.a 0), _, (c.a 1), _, (c.a 2), _, (c.a 3), ?_⟩
 obtain ⟨h, i, H⟩ := qap H
 refine (qb0.con i ).mono ?_
 rintro _ o ⟨rfl, j⟩
 have k := qam (qam (Ext.refl w) g) j
 refine ⟨h, rfl, ?_⟩
 cases d.trans H.symm
 exact ⟨rfl, k⟩
def qaJ.vc (a : OA) (b c : Nat) (w : World) (K : VK) : Prop :=
  Cl 31 #[(sv a b c)] w fun g d => (∃ (e : Bool), g = (.bool e) ∧ qa5 e (Cl 35 #[(sv a b c), (.func (.func 36) #[] #[])] d fun h i => (∃ (f : Bool), h = (.bool f) ∧ K (.bool (!f)) i)) (K (.bool false) d))

def qaJ.ann : Ann := (.seq .l (.seq .l .l))

theorem qaJ.con {b : List D.Ins} {c : OA} {d : Nat} {r : Bool} {w : World} (j : M.qbO b) (e : r = M.qaJ b) (f : Row el60 w c b) (g : b.length ≤ d) :
    Cl 19 #[(sv c b.length d)] w (fun k i => k = (.bool r) ∧ Ext w i) := by
 have H := wp.qaJ.math b j
 have a := Ext.refl w
 refine begK mixed Try.f19 ann (vc c b.length d) ?_
 unfold vc
 unfold wp.qaJ at H
 obtain ⟨l, H⟩ := H
 obtain ⟨m, n, H⟩ := qap H
 refine (qan.con l n (f.ext a) g).mono ?_
 rintro _ u ⟨rfl, o⟩
 have a := qam a o
 refine ⟨m, rfl, ?_⟩
 apply brc H<;>intro h H
 ·obtain ⟨p, H⟩ := H
  obtain ⟨q, s, H⟩ := qap H
  refine (qa1.con p s (f.ext a) g (fun v x i y => qfV (l1 := [_]) (l2 := []) (qaE.con rfl))).mono ?_
  rintro _ z ⟨rfl, t⟩
  have a := qam a t
  refine ⟨q, rfl, ?_⟩
  cases e.trans H.symm
  exact ⟨rfl, a⟩
 cases e.trans H.symm
 exact ⟨rfl, a⟩
def qaT.vc (c : OA) (a d : Nat) (w : World) (K : VK) : Prop :=
  qa5 (((a : Nat) : Int) == 4) (Cl 71 #[(sv c a d)] w fun e f => (∃ (b : Bool), e = (.bool b) ∧ K (.bool b) f)) (K (.bool false) w)

def qaT.ann : Ann := (.seq .l (.seq .l .l))

theorem qaT.con {a : List Int} {c : OA} {d : Nat} {r : Bool} {w : World} (e : r = M.qaT a) (f : Row el3 w c a) (g : a.length ≤ d) :
    Cl 66 #[(sv c a.length d)] w (fun i j => i = (.bool r) ∧ Ext w j) := by
 have H := wp.qaT.math a
 have b := Ext.refl w
 refine begK mixed Try.f66 ann (vc c a.length d) ?_
 unfold vc
 unfold wp.qaT at H
 apply brc H<;>intro h H
 ·obtain ⟨k, H⟩ := H
  obtain ⟨l, m, H⟩ := qap H
  refine (qaQ.con k m (f.ext b) g).mono ?_
  rintro _ o ⟨rfl, n⟩
  have b := qam b n
  refine ⟨l, rfl, ?_⟩
  cases e.trans H.symm
  exact ⟨rfl, b⟩
 cases e.trans H.symm
 exact ⟨rfl, b⟩
def qaC.vc (x : OA) (h y : Nat) (i j : Int) (k : OA) (l m : Nat) (w : World) (K : VK) : Prop :=
  newK w (.cells #[(iv i), (iv j), (sv k l m)] 78) fun a d => ldI d (((bx a).add 0).add 0) fun n => Cl 48 #[(iv n)] d fun o b => (∃ (e : Bool), o = (.bool e) ∧ qa5 e (ldI b (((bx a).add 1).add 0) fun p => Cl 32 #[(iv p), (iv 0), (iv ((h : Nat) : Int))] b fun q c => (∃ (f : Bool), q = (.bool f) ∧ qa5 f (ldS c (((bx a).add 2).add 0) fun r s t => Cl 66 #[(sv r s t)] c fun u v => (∃ (g : Bool), u = (.bool g) ∧ K (.bool g) v)) (K (.bool false) c))) (K (.bool false) b))

def qaC.ann : Ann := (.seq .l (.seq .l .l))

theorem qaC.con {d : List D.Ins} {f g : OA} {i j : Nat} {b : D.Lane} {r : Bool} {w : World} (n : M.qcc d b) (k : r = M.qaC d b) (C : Row el60 w f d) (E : d.length ≤ i) (o : Row el3 w g b.Regs) (p : b.Regs.length ≤ j) :
    Cl 64 #[(sv f d.length i), (.agg #[(iv b.Thread), (iv b.Pc), (sv g b.Regs.length j)])] w (fun q s => q = (.bool r) ∧ Ext w s) := by
 have H := wp.qaC.math d b n
 refine begK mixed Try.f64 ann (vc f d.length i b.Thread b.Pc g b.Regs.length j) ?_
 unfold vc
 unfold wp.qaC at H
 refine qbE (fun F G I e t => ?_)
 refine ⟨_, (e.a 0), ?_⟩
 obtain ⟨u, v, H⟩ := qap H
 refine (qax.con v ).mono ?_
 rintro _ J ⟨rfl, l⟩
 have e := e.ext l
 have c := qam (qam (Ext.refl w) t) l
 refine ⟨u, rfl, ?_⟩
 apply brc H<;>intro h H
 ·refine ⟨_, (e.a 1), ?_⟩
  obtain ⟨x, y, H⟩ := qap H
  refine (qab.con y ).mono ?_
  rintro _ K ⟨rfl, m⟩
  have e := e.ext m
  have c := qam c m
  refine ⟨x, rfl, ?_⟩
  apply brc H<;>intro h H
  ·refine ⟨_, _, _, (e.a 2), ?_⟩
   obtain ⟨z, A, H⟩ := qap H
   refine (qaT.con A (o.ext c) p).mono ?_
   rintro _ L ⟨rfl, B⟩
   have c := qam c B
   refine ⟨z, rfl, ?_⟩
   cases k.trans H.symm
   exact ⟨rfl, c⟩
  cases k.trans H.symm
  exact ⟨rfl, c⟩
 cases k.trans H.symm
 exact ⟨rfl, c⟩
def qb6.vc (c : OA) (d e : Nat) (h i : Int) (j : OA) (k l : Nat) (w : World) (K : VK) : Prop :=
  newK w (.cells #[(iv h), (iv i), (sv j k l)] 78) fun b m => Cl 31 #[(sv c d e)] m fun n a => (∃ (f : Bool), n = (.bool f) ∧ qa5 f (ldI a ((bx b).add 0) fun o => ldI a ((bx b).add 1) fun p => ldS a ((bx b).add 2) fun q r s => Cl 64 #[(sv c d e), (.agg #[(iv o), (iv p), (sv q r s)])] a fun t u => (∃ (g : Bool), t = (.bool g) ∧ K (.bool g) u)) (K (.bool false) a))

def qb6.ann : Ann := (.seq .l (.seq .l .l))

theorem qb6.con {d : List D.Ins} {f g : OA} {i j : Nat} {b : D.Lane} {r : Bool} {w : World} (o : M.qcq d b) (k : r = M.qb6 d b) (l : Row el60 w f d) (m : d.length ≤ i) (p : Row el3 w g b.Regs) (q : b.Regs.length ≤ j) :
    Cl 61 #[(sv f d.length i), (.agg #[(iv b.Thread), (iv b.Pc), (sv g b.Regs.length j)])] w (fun s t => s = (.bool r) ∧ Ext w t) := by
 have H := wp.qb6.math d b o
 refine begK mixed Try.f61 ann (vc f d.length i b.Thread b.Pc g b.Regs.length j) ?_
 unfold vc
 unfold wp.qb6 at H
 refine qbE (fun E F G e u => ?_)
 have c := qam (Ext.refl w) u
 obtain ⟨v, H⟩ := H
 obtain ⟨x, y, H⟩ := qap H
 refine (qan.con v y (l.ext c) m).mono ?_
 rintro _ I ⟨rfl, n⟩
 have e := e.ext n
 have c := qam c n
 refine ⟨x, rfl, ?_⟩
 apply brc H<;>intro h H
 ·refine ⟨_, (e.a 0), _, (e.a 1), _, _, _, (e.a 2), ?_⟩
  obtain ⟨z, H⟩ := H
  obtain ⟨A, B, H⟩ := qap H
  refine (qaC.con z B (l.ext c) m (p.ext c) q).mono ?_
  rintro _ J ⟨rfl, C⟩
  have c := qam c C
  refine ⟨A, rfl, ?_⟩
  cases k.trans H.symm
  exact ⟨rfl, c⟩
 cases k.trans H.symm
 exact ⟨rfl, c⟩
def qaM.vc (a b : Int) (w : World) (K : VK) : Prop :=
  Cl 72 #[(iv a), (iv b), (iv (wrap .i64 (a - b)))] w fun d e => (∃ (c : Int), d = (iv c) ∧ K (iv c) e)

def qaM.ann : Ann := (.seq .l (.seq .l .l))

theorem qaM.con {a b r : Int} {w : World} (c : r = M.qaM a b)  :
    Cl 68 #[(iv a), (iv b)] w (fun d e => d = (iv r) ∧ Ext w e) := by
 have H := wp.qaM.math a b
 refine begK mixed Try.f68 ann (vc a b) ?_
 unfold vc
 unfold wp.qaM at H
 obtain ⟨f, g, H⟩ := qap H
 refine (qaq.con g ).mono ?_
 rintro _ j ⟨rfl, h⟩
 have i := qam (Ext.refl w) h
 refine ⟨f, rfl, ?_⟩
 cases c.trans H.symm
 exact ⟨rfl, i⟩
def qaO.vc (a b : Int) (w : World) (K : VK) : Prop :=
  Cl 72 #[(iv a), (iv b), (iv (wrap .i64 (a * b)))] w fun d e => (∃ (c : Int), d = (iv c) ∧ K (iv c) e)

def qaO.ann : Ann := (.seq .l (.seq .l .l))

theorem qaO.con {a b r : Int} {w : World} (c : r = M.qaO a b)  :
    Cl 69 #[(iv a), (iv b)] w (fun d e => d = (iv r) ∧ Ext w e) := by
 have H := wp.qaO.math a b
 refine begK mixed Try.f69 ann (vc a b) ?_
 unfold vc
 unfold wp.qaO at H
 obtain ⟨f, g, H⟩ := qap H
 refine (qaq.con g ).mono ?_
 rintro _ j ⟨rfl, h⟩
 have i := qam (Ext.refl w) h
 refine ⟨f, rfl, ?_⟩
 cases c.trans H.symm
 exact ⟨rfl, i⟩
def qaH.vc (b c : Int) (w : World) (K : VK) : Prop :=
  Cl 56 #[(iv b)] w fun g d => (∃ (e : Bool), g = (.bool e) ∧ qa5 e (Cl 56 #[(iv c)] d fun h a => (∃ (f : Bool), h = (.bool f) ∧ qa5 f (qa5 (decide (b < c)) (K (iv 1) a) (K (iv 0) a)) (K (iv 0) a))) (K (iv 0) d))

def qaH.ann : Ann := (.seq .l (.seq (.seq .l (.two (.seq .l .l) .l)) (.seq .l .l)))

theorem qaH.con {b c r : Int} {w : World} (d : r = M.qaH b c)  :
    Cl 70 #[(iv b), (iv c)] w (fun e f => e = (iv r) ∧ Ext w f) := by
 have H := wp.qaH.math b c
 refine begK mixed Try.f70 ann (vc b c) ?_
 unfold vc
 unfold wp.qaH at H
 obtain ⟨g, i, H⟩ := qap H
 refine (qau.con i ).mono ?_
 rintro _ n ⟨rfl, j⟩
 have a := qam (Ext.refl w) j
 refine ⟨g, rfl, ?_⟩
 apply brc H<;>intro h H
 ·obtain ⟨k, l, H⟩ := qap H
  refine (qau.con l ).mono ?_
  rintro _ o ⟨rfl, m⟩
  have a := qam a m
  refine ⟨k, rfl, ?_⟩
  apply brc H<;>intro h H
  ·apply brc H<;>intro h H
   ·cases d.trans H.symm
    exact ⟨rfl, a⟩
   cases d.trans H.symm
   exact ⟨rfl, a⟩
  cases d.trans H.symm
  exact ⟨rfl, a⟩
 cases d.trans H.symm
 exact ⟨rfl, a⟩
def qay.vc (S T U V W : Int) (c : OA) (d c2 : Nat) (w : World) (K : VK) : Prop :=
  newK w (.cells #[(iv S), (iv T), (iv U), (iv V)] 60) fun b a => ldI a (((bx b).add 0).add 0) fun e => qa5 (e == 1) (ldI a (((bx b).add 1).add 0) fun m => ldI a (((bx b).add 2).add 0) fun X => (idx m d c fun Y => qag (Y.add ((m.toNat) * 1)) [(iv X)] 0 a fun Z => K (.tuple #[]) Z)) (qa5 (e == 2) ((∃ k : Nat → Prop, ldIM k a ((bx b).add 1) 0 fun n => ldIM k a ((bx b).add 2) 0 fun o => (idx o d c fun a0 => ldIM k a (a0.add ((o.toNat) * 1)) 0 fun a1 => (idx n d c fun a2 => qag (a2.add ((n.toNat) * 1)) [(iv a1)] 0 a.drew fun a3 => K (.tuple #[]) a3)))) (qa5 (e == 3) ((∃ f : Nat → Prop, ldIM f a ((bx b).add 1) 0 fun p => ldIM f a ((bx b).add 2) 0 fun q => (idx q d c fun a4 => ldIM f a (a4.add ((q.toNat) * 1)) 0 fun a5 => ldIM f a ((bx b).add 3) 0 fun r => (idx r d c fun a6 => ldIM f a (a6.add ((r.toNat) * 1)) 0 fun a7 => Cl 67 #[(iv a5), (iv a7)] a.drew fun a8 s => (∃ (t : Int), a8 = (iv t) ∧ qcY f a s ∧ (idx p d c fun a9 => qag (a9.add ((p.toNat) * 1)) [(iv t)] 0 s fun aa => K (.tuple #[]) aa)))))) (qa5 (e == 4) ((∃ g : Nat → Prop, ldIM g a ((bx b).add 1) 0 fun u => ldIM g a ((bx b).add 2) 0 fun v => (idx v d c fun ab => ldIM g a (ab.add ((v.toNat) * 1)) 0 fun ac => ldIM g a ((bx b).add 3) 0 fun x => (idx x d c fun ad => ldIM g a (ad.add ((x.toNat) * 1)) 0 fun ae => Cl 68 #[(iv ac), (iv ae)] a.drew fun af y => (∃ (z : Int), af = (iv z) ∧ qcY g a y ∧ (idx u d c fun ag => qag (ag.add ((u.toNat) * 1)) [(iv z)] 0 y fun ah => K (.tuple #[]) ah)))))) (qa5 (e == 5) ((∃ h : Nat → Prop, ldIM h a ((bx b).add 1) 0 fun A => ldIM h a ((bx b).add 2) 0 fun B => (idx B d c fun ai => ldIM h a (ai.add ((B.toNat) * 1)) 0 fun aj => ldIM h a ((bx b).add 3) 0 fun C => (idx C d c fun ak => ldIM h a (ak.add ((C.toNat) * 1)) 0 fun al => Cl 69 #[(iv aj), (iv al)] a.drew fun am D => (∃ (E : Int), am = (iv E) ∧ qcY h a D ∧ (idx A d c fun an => qag (an.add ((A.toNat) * 1)) [(iv E)] 0 D fun ao => K (.tuple #[]) ao)))))) (qa5 (e == 6) ((∃ j : Nat → Prop, ldIM j a ((bx b).add 1) 0 fun F => ldIM j a ((bx b).add 2) 0 fun G => (idx G d c fun ap => ldIM j a (ap.add ((G.toNat) * 1)) 0 fun aq => ldIM j a ((bx b).add 3) 0 fun H => (idx H d c fun ar => ldIM j a (ar.add ((H.toNat) * 1)) 0 fun au => (idx F d c fun av => qag (av.add ((F.toNat) * 1)) [(iv (qcZ .i64 aq au))] 0 a.drew fun aw => K (.tuple #[]) aw))))) (qa5 (e == 7) ((∃ i : Nat → Prop, ldIM i a ((bx b).add 1) 0 fun I => ldIM i a ((bx b).add 2) 0 fun J => (idx J d c fun ax => ldIM i a (ax.add ((J.toNat) * 1)) 0 fun ay => ldIM i a ((bx b).add 3) 0 fun L => (idx L d c fun az => ldIM i a (az.add ((L.toNat) * 1)) 0 fun aA => Cl 70 #[(iv ay), (iv aA)] a.drew fun aB M => (∃ (N : Int), aB = (iv N) ∧ qcY i a M ∧ (idx I d c fun aC => qag (aC.add ((I.toNat) * 1)) [(iv N)] 0 M fun aD => K (.tuple #[]) aD)))))) (qa5 (e == 8) (ldI a (((bx b).add 1).add 0) fun O => (idx O d c fun aE => qag (aE.add ((O.toNat) * 1)) [(iv W)] 0 a fun aF => K (.tuple #[]) aF)) (qa5 (e == 9) (ldI a (((bx b).add 3).add 0) fun P => (idx P d c fun aG => ldI a ((aG.add ((P.toNat) * 1)).add 0) fun aH => qa5 (aH != 0) ((∃ l : Nat → Prop, ldIM l a ((bx b).add 1) 0 fun Q => ldIM l a ((bx b).add 2) 0 fun R => (idx R d c fun aI => ldIM l a (aI.add ((R.toNat) * 1)) 0 fun aJ => (idx Q d c fun aK => qag (aK.add ((Q.toNat) * 1)) [(iv aJ)] 0 a.drew fun aL => K (.tuple #[]) aL)))) (K (.tuple #[]) a))) (K (.tuple #[]) a)))))))))

def qay.ann : Ann := (.seq .l (.seq .l (.one (.seq .l (.two .l (.seq .l (.two .l (.seq .l (.two .l (.seq .l (.two .l (.seq .l (.two .l (.seq .l (.two .l (.seq .l (.two .l (.seq .l (.two .l (.seq .l (.two (.seq .l (.two .l .l)) .l)))))))))))))))))))))

theorem qay.con {f : D.Ins} {k : Int} {g : List Int} {l : OA} {m : Nat} {r : (List Int)} {w : World} (hp : M.qcw f k g) (i : r = M.qay f k g) (b : Own el3 w 0 l m g) :
    Cl 65 #[(.agg (iC f)), (iv k), (sv l g.length m)] w (fun v_ w_ => v_ = (.tuple #[]) ∧ Own el3 w_ 0 l m r ∧ r.length = g.length ∧ Chg (InB l) w w_) := by
 have H := wp.qay.math f k g hp
 refine begK mixed Try.f65 ann (vc f.Op f.A f.B f.C k l g.length m) ?_
 unfold vc
 unfold wp.qay at H
 refine qbE (fun bD n L2 d a5 => ?_)
 have b := b.ext a5
 have c := (Chg.refl (InB l) w).then a5
 refine ⟨_, (d.a 0), ?_⟩
 apply brc H<;>intro h H
 ·refine ⟨_, (d.a 1), _, (d.a 2), ?_⟩
  obtain ⟨⟨o, p⟩, H⟩ := H
  obtain ⟨aC, q, bE⟩ := Row.at b.row o p
  refine ⟨o, p, aC, q, ?_⟩
  refine Own.stA b q o p 0 f.B (fun bF b aD bG => ?_)
  have c := c.chgb aD (Or.inr ⟨_, q, rfl⟩)
  cases i.trans H.symm
  exact ⟨rfl, b, (by first | (simp only [bC, wC, List.length_set]; done) | (simp only [bC, wC, List.length_set, List.length_set]; done) | (simp; done) | (simp; omega) | omega), c⟩
 apply brc H<;>intro h H
 ·refine ⟨(fun _ => False), _, noM (d.a 1), _, noM (d.a 2), ?_⟩
  obtain ⟨⟨a6, a7⟩, H⟩ := H
  obtain ⟨aE, aF, aG⟩ := Row.at b.row a6 a7
  refine ⟨a6, a7, aE, aF, _, ⟨(fun e => e), (aG 0 _ rfl)⟩, ?_⟩
  obtain ⟨⟨s, t⟩, H⟩ := H
  obtain ⟨aH, u, bH⟩ := Row.at b.row s t
  refine ⟨s, t, aH, u, ?_⟩
  have b := b.ext (Ext.drew _)
  refine Own.stA b u s t 0 (rd g f.B) (fun bI b aI bJ => ?_)
  have c := (c.then (Ext.drew _)).chgb aI (Or.inr ⟨_, u, rfl⟩)
  cases i.trans H.symm
  exact ⟨rfl, b, (by first | (simp only [bC, wC, List.length_set]; done) | (simp only [bC, wC, List.length_set, List.length_set]; done) | (simp; done) | (simp; omega) | omega), c⟩
 apply brc H<;>intro h H
 ·refine ⟨(fun _ => False), ?_⟩
  have hBz := c
  have j := b
  refine ⟨_, noM (d.a 1), _, noM (d.a 2), ?_⟩
  obtain ⟨⟨a8, a9⟩, H⟩ := H
  obtain ⟨aJ, aK, aL⟩ := Row.at b.row a8 a9
  refine ⟨a8, a9, aJ, aK, _, ⟨(fun e => e), (aL 0 _ rfl)⟩, _, noM (d.a 3), ?_⟩
  obtain ⟨⟨aa, ab⟩, H⟩ := H
  obtain ⟨aM, aN, aO⟩ := Row.at b.row aa ab
  refine ⟨aa, ab, aM, aN, _, ⟨(fun e => e), (aO 0 _ rfl)⟩, ?_⟩
  have b := b.ext (Ext.drew _)
  have c := c.then (Ext.drew _)
  have v := (Chg.refl (fun _ => False) n).then (Ext.drew _)
  obtain ⟨ac, aP, H⟩ := qap H
  refine (qaN.con aP ).mono ?_
  rintro _ bK ⟨rfl, x⟩
  have b := b.ext x
  have v := v.then x
  refine ⟨ac, rfl, qcK v, ?_⟩
  obtain ⟨⟨y, z⟩, H⟩ := H
  obtain ⟨aQ, E, bL⟩ := Row.at j.row y z
  refine ⟨y, z, aQ, E, ?_⟩
  refine Own.stA b E y z 0 ac (fun bM b aR bN => ?_)
  have c := (c.then x).chgb aR (Or.inr ⟨_, E, rfl⟩)
  cases i.trans H.symm
  exact ⟨rfl, b, (by first | (simp only [bC, wC, List.length_set]; done) | (simp only [bC, wC, List.length_set, List.length_set]; done) | (simp; done) | (simp; omega) | omega), c⟩
 apply brc H<;>intro h H
 ·refine ⟨(fun _ => False), ?_⟩
  have hBz := c
  have j := b
  refine ⟨_, noM (d.a 1), _, noM (d.a 2), ?_⟩
  obtain ⟨⟨ad, ae⟩, H⟩ := H
  obtain ⟨aS, aT, aU⟩ := Row.at b.row ad ae
  refine ⟨ad, ae, aS, aT, _, ⟨(fun e => e), (aU 0 _ rfl)⟩, _, noM (d.a 3), ?_⟩
  obtain ⟨⟨af, ag⟩, H⟩ := H
  obtain ⟨aV, aW, aX⟩ := Row.at b.row af ag
  refine ⟨af, ag, aV, aW, _, ⟨(fun e => e), (aX 0 _ rfl)⟩, ?_⟩
  have b := b.ext (Ext.drew _)
  have c := c.then (Ext.drew _)
  have F := (Chg.refl (fun _ => False) n).then (Ext.drew _)
  obtain ⟨ah, aY, H⟩ := qap H
  refine (qaM.con aY ).mono ?_
  rintro _ bO ⟨rfl, G⟩
  have b := b.ext G
  have F := F.then G
  refine ⟨ah, rfl, qcK F, ?_⟩
  obtain ⟨⟨I, J⟩, H⟩ := H
  obtain ⟨aZ, K, bP⟩ := Row.at j.row I J
  refine ⟨I, J, aZ, K, ?_⟩
  refine Own.stA b K I J 0 ah (fun bQ b b0 bR => ?_)
  have c := (c.then G).chgb b0 (Or.inr ⟨_, K, rfl⟩)
  cases i.trans H.symm
  exact ⟨rfl, b, (by first | (simp only [bC, wC, List.length_set]; done) | (simp only [bC, wC, List.length_set, List.length_set]; done) | (simp; done) | (simp; omega) | omega), c⟩
 apply brc H<;>intro h H
 ·refine ⟨(fun _ => False), ?_⟩
  have hBz := c
  have j := b
  refine ⟨_, noM (d.a 1), _, noM (d.a 2), ?_⟩
  obtain ⟨⟨ai, aj⟩, H⟩ := H
  obtain ⟨b1, b2, b3⟩ := Row.at b.row ai aj
  refine ⟨ai, aj, b1, b2, _, ⟨(fun e => e), (b3 0 _ rfl)⟩, _, noM (d.a 3), ?_⟩
  obtain ⟨⟨ak, al⟩, H⟩ := H
  obtain ⟨b4, b5, b6⟩ := Row.at b.row ak al
  refine ⟨ak, al, b4, b5, _, ⟨(fun e => e), (b6 0 _ rfl)⟩, ?_⟩
  have b := b.ext (Ext.drew _)
  have c := c.then (Ext.drew _)
  have L := (Chg.refl (fun _ => False) n).then (Ext.drew _)
  obtain ⟨am, b7, H⟩ := qap H
  refine (qaO.con b7 ).mono ?_
  rintro _ bS ⟨rfl, N⟩
  have b := b.ext N
  have L := L.then N
  refine ⟨am, rfl, qcK L, ?_⟩
  obtain ⟨⟨O, P⟩, H⟩ := H
  obtain ⟨b8, Q, bT⟩ := Row.at j.row O P
  refine ⟨O, P, b8, Q, ?_⟩
  refine Own.stA b Q O P 0 am (fun bU b b9 bV => ?_)
  have c := (c.then N).chgb b9 (Or.inr ⟨_, Q, rfl⟩)
  cases i.trans H.symm
  exact ⟨rfl, b, (by first | (simp only [bC, wC, List.length_set]; done) | (simp only [bC, wC, List.length_set, List.length_set]; done) | (simp; done) | (simp; omega) | omega), c⟩
 apply brc H<;>intro h H
 ·refine ⟨(fun _ => False), _, noM (d.a 1), _, noM (d.a 2), ?_⟩
  obtain ⟨⟨an, ao⟩, H⟩ := H
  obtain ⟨ba, bb, bc⟩ := Row.at b.row an ao
  refine ⟨an, ao, ba, bb, _, ⟨(fun e => e), (bc 0 _ rfl)⟩, _, noM (d.a 3), ?_⟩
  obtain ⟨⟨ap, aq⟩, H⟩ := H
  obtain ⟨bd, be, bf⟩ := Row.at b.row ap aq
  refine ⟨ap, aq, bd, be, _, ⟨(fun e => e), (bf 0 _ rfl)⟩, ?_⟩
  obtain ⟨⟨R, S⟩, H⟩ := H
  obtain ⟨bg, T, bW⟩ := Row.at b.row R S
  refine ⟨R, S, bg, T, ?_⟩
  have b := b.ext (Ext.drew _)
  refine Own.stA b T R S 0 (qcZ .i64 (rd g f.B) (rd g f.C)) (fun bX b bh bY => ?_)
  have c := (c.then (Ext.drew _)).chgb bh (Or.inr ⟨_, T, rfl⟩)
  cases i.trans H.symm
  exact ⟨rfl, b, (by first | (simp only [bC, wC, List.length_set]; done) | (simp only [bC, wC, List.length_set, List.length_set]; done) | (simp; done) | (simp; omega) | omega), c⟩
 apply brc H<;>intro h H
 ·refine ⟨(fun _ => False), ?_⟩
  have hBz := c
  have j := b
  refine ⟨_, noM (d.a 1), _, noM (d.a 2), ?_⟩
  obtain ⟨⟨ar, au⟩, H⟩ := H
  obtain ⟨bi, bj, bk⟩ := Row.at b.row ar au
  refine ⟨ar, au, bi, bj, _, ⟨(fun e => e), (bk 0 _ rfl)⟩, _, noM (d.a 3), ?_⟩
  obtain ⟨⟨av, aw⟩, H⟩ := H
  obtain ⟨bl, bm, bn⟩ := Row.at b.row av aw
  refine ⟨av, aw, bl, bm, _, ⟨(fun e => e), (bn 0 _ rfl)⟩, ?_⟩
  have b := b.ext (Ext.drew _)
  have c := c.then (Ext.drew _)
  have U := (Chg.refl (fun _ => False) n).then (Ext.drew _)
  obtain ⟨ax, bo, H⟩ := qap H
  refine (qaH.con bo ).mono ?_
  rintro _ bZ ⟨rfl, V⟩
  have b := b.ext V
  have U := U.then V
  refine ⟨ax, rfl, qcK U, ?_⟩
  obtain ⟨⟨W, X⟩, H⟩ := H
  obtain ⟨bp, Y, c0⟩ := Row.at j.row W X
  refine ⟨W, X, bp, Y, ?_⟩
  refine Own.stA b Y W X 0 ax (fun c1 b bq c3 => ?_)
  have c := (c.then V).chgb bq (Or.inr ⟨_, Y, rfl⟩)
  cases i.trans H.symm
  exact ⟨rfl, b, (by first | (simp only [bC, wC, List.length_set]; done) | (simp only [bC, wC, List.length_set, List.length_set]; done) | (simp; done) | (simp; omega) | omega), c⟩
 apply brc H<;>intro h H
 ·refine ⟨_, (d.a 1), ?_⟩
  obtain ⟨⟨Z, a0⟩, H⟩ := H
  obtain ⟨br, a1, c4⟩ := Row.at b.row Z a0
  refine ⟨Z, a0, br, a1, ?_⟩
  refine Own.stA b a1 Z a0 0 k (fun c5 b bs c6 => ?_)
  have c := c.chgb bs (Or.inr ⟨_, a1, rfl⟩)
  cases i.trans H.symm
  exact ⟨rfl, b, (by first | (simp only [bC, wC, List.length_set]; done) | (simp only [bC, wC, List.length_set, List.length_set]; done) | (simp; done) | (simp; omega) | omega), c⟩
 apply brc H<;>intro h H
 ·refine ⟨_, (d.a 3), ?_⟩
  obtain ⟨⟨ay, az⟩, H⟩ := H
  obtain ⟨bt, bu, bv⟩ := Row.at b.row ay az
  refine ⟨ay, az, bt, bu, _, (bv 0 _ rfl), ?_⟩
  apply brc H<;>intro h H
  ·refine ⟨(fun _ => False), _, noM (d.a 1), _, noM (d.a 2), ?_⟩
   obtain ⟨⟨aA, aB⟩, H⟩ := H
   obtain ⟨bw, bx, bz⟩ := Row.at b.row aA aB
   refine ⟨aA, aB, bw, bx, _, ⟨(fun e => e), (bz 0 _ rfl)⟩, ?_⟩
   obtain ⟨⟨a2, a3⟩, H⟩ := H
   obtain ⟨bA, a4, c7⟩ := Row.at b.row a2 a3
   refine ⟨a2, a3, bA, a4, ?_⟩
   have b := b.ext (Ext.drew _)
   refine Own.stA b a4 a2 a3 0 (rd g f.B) (fun c8 b bB c9 => ?_)
   have c := (c.then (Ext.drew _)).chgb bB (Or.inr ⟨_, a4, rfl⟩)
   cases i.trans H.symm
   exact ⟨rfl, b, (by first | (simp only [bC, wC, List.length_set]; done) | (simp only [bC, wC, List.length_set, List.length_set]; done) | (simp; done) | (simp; omega) | omega), c⟩
  cases i.trans H.symm
  exact ⟨rfl, b, rfl, c⟩
 cases i.trans H.symm
 exact ⟨rfl, b, rfl, c⟩
def qai.vc (a : Addr) (m : OA) (i Z : Nat) (w : World) (K : VK) : Prop :=
  ldI w ((a.add 1).add 0) fun q => qa5 (q == ((i : Nat) : Int)) (K (.bool false) w) (ldI w ((a.add 1).add 0) fun g => (idx g i m fun j => ldI w ((j.add ((g.toNat) * 4)).add 0) fun r => ldI w ((j.add ((g.toNat) * 4)).add 1) fun s => ldI w ((j.add ((g.toNat) * 4)).add 2) fun t => ldI w ((j.add ((g.toNat) * 4)).add 3) fun u => Cl 37 #[(.agg #[(iv r), (iv s), (iv t), (iv u)])] w fun v e => (∃ (n : Bool), v = (.bool n) ∧ qa5 (!n) (K (.bool false) e) (ldI e ((a.add 1).add 0) fun h => (idx h i m fun k => ldI e ((k.add ((h.toNat) * 4)).add 0) fun x => ldI e ((k.add ((h.toNat) * 4)).add 1) fun y => ldI e ((k.add ((h.toNat) * 4)).add 2) fun z => ldI e ((k.add ((h.toNat) * 4)).add 3) fun A => newK e (.cells #[(iv 0), (iv 0), (iv 0), (iv 0)] 60) fun b B => qag (bx b) [(iv x), (iv y), (iv z), (iv A)] 0 B fun c => ldI c (((bx b).add 0).add 0) fun C => qa5 (C == 12) (qag (a.add 1) [(iv ((i : Nat) : Int))] 0 c fun D => K (.bool true) D) (qg0 (σ := Bool × Unit) (fun l => ldI c (((bx b).add 0).add 0) fun E => qa5 (E == 11) (l (true, ()) c.drew) (ldI c (((bx b).add 0).add 0) fun F => qa5 (F == 10) (ldS c ((a.add 2).add 0) fun G H a0 => ldI c (((bx b).add 1).add 0) fun o => (idx o H G fun I => ldI c ((I.add ((o.toNat) * 1)).add 0) fun J => l ((J == 0), ()) c.drew)) (l (false, ()) c.drew))) fun L d => qa5 L.1 (ldI d (((bx b).add 2).add 0) fun M => qag (a.add 1) [(iv M)] 0 d fun N => K (.bool true) N) ((∃ f : Nat → Prop, ldIM f d (bx b) 0 fun O => ldIM f d (bx b) 1 fun P => ldIM f d (bx b) 2 fun Q => ldIM f d (bx b) 3 fun R => ldIM f d (a.add 0) 0 fun S => ldSM f d (a.add 2) 0 fun T U V => Cl 65 #[(.agg #[(iv O), (iv P), (iv Q), (iv R)]), (iv S), (sv T U V)] d.drew fun W p => (W = (.tuple #[]) ∧ ldI p ((a.add 1).add 0) fun X => qag (a.add 1) [(iv (wrap .i64 (X + 1)))] 0 p fun Y => K (.bool true) Y)))))))))

def qai.ann : Ann := (.seq .l (.seq (.seq .l (.two (.seq .l .l) .l)) (.seq .l (.seq (.one (.seq .l (.two .l (.cut [(57, .bool)] .l (.two .l (.seq .l .l)))))) (.seq .l .l)))))

theorem qai.con {e : D.Lane} {m k x : Nat} {j t : OA} {i : List D.Ins} {r : Bool × D.Lane} {w : World} (W : M.qbW e i) (p : r = M.qai e i) (b : Blk w m 78 #[(iv e.Thread), (iv e.Pc), (sv j e.Regs.length k)]) (c : Own el3 w 0 j k e.Regs) (I : Row el60 w t i) (ag : i.length ≤ x) (J : i ≠ [] → ∀ g, InB t g → ¬ (fun l => InB j l ∨ l = m) g) :
    Cl 62 #[(.pointer (some (bx m))), (sv t i.length x)] w (fun X n => ∃ (y : OA) (K : Nat), X = (.bool r.1) ∧ Blk n m 78 #[(iv r.2.Thread), (iv r.2.Pc), (sv y r.2.Regs.length K)] ∧ Own el3 n 0 y K r.2.Regs ∧ Mov w j y ∧ Chg (fun l => InB j l ∨ l = m) w n) := by
 have H := wp.qai.math e i W
 have d := Chg.refl (fun l => InB j l ∨ l = m) w
 refine begK mixed Try.f62 ann (vc (bx m) t i.length x) ?_
 unfold vc
 unfold wp.qai at H
 refine ⟨_, (b.a 1), ?_⟩
 apply brc H<;>intro h H
 ·cases p.trans H.symm
  exact ⟨j, k, rfl, b, (c.mono (Nat.zero_le _)), (Mov.same _ _), d⟩
 refine ⟨_, (b.a 1), ?_⟩
 obtain ⟨⟨L, N⟩, H⟩ := H
 obtain ⟨Y, Z, u⟩ := Row.at (I.chgS d J) L N
 refine ⟨L, N, Y, Z, _, (u 0 _ rfl), _, (u 1 _ rfl), _, (u 2 _ rfl), _, (u 3 _ rfl), ?_⟩
 obtain ⟨a0, a1, H⟩ := qap H
 refine (qb0.con a1 ).mono ?_
 rintro _ ah ⟨rfl, z⟩
 have b := b.ext z
 have c := c.ext z
 have d := d.then z
 refine ⟨a0, rfl, ?_⟩
 apply brc H<;>intro h H
 ·cases p.trans H.symm
  exact ⟨j, k, rfl, b, (c.mono (Nat.zero_le _)), (Mov.same _ _), d⟩
 refine ⟨_, (b.a 1), ?_⟩
 obtain ⟨⟨O, P⟩, H⟩ := H
 obtain ⟨a2, a3, v⟩ := Row.at (I.chgS d J) O P
 refine ⟨O, P, a2, a3, _, (v 0 _ rfl), _, (v 1 _ rfl), _, (v 2 _ rfl), _, (v 3 _ rfl), ?_⟩
 refine qbE (fun a4 ai q P4 E => ?_)
 have a5 := b.ne q
 have a6 := c.qcS q
 have c := c.ext E
 have f := P4
 have q := Nat.le_trans d.size q
 refine qcb f (o := 0) (cs' := #[(iv ((rd i e.Pc).Op)), (iv ((rd i e.Pc).A)), (iv ((rd i e.Pc).B)), (iv ((rd i e.Pc).C))]) rfl rfl (Nat.le_of_ble_eq_true rfl) rfl (fun aj f F => ?_)
 have b := (b.ext E).chg F a5
 have a7 := c.chg F a6
 have c := a7
 have d := (d.then E).chgb F (Or.inl q)
 refine ⟨_, (f.a 0), ?_⟩
 apply brc H<;>intro h H
 ·refine stB b 1 #[(iv e.Thread), (iv (i.length : Int)), (sv j e.Regs.length k)] (fun ak s Q => ?_)
  have c := c.chg Q (c.qas b (by decide))
  have d := d.chgb Q (Or.inr (Or.inr rfl))
  have b := s
  cases p.trans H.symm
  exact ⟨j, k, rfl, b, (c.mono (Nat.zero_le _)), (Mov.same _ _), d⟩
 obtain ⟨a8, a9, H⟩ := qdl H
 refine ⟨fun z_ n => ∃ (G : Bool), z_ = (G, ()) ∧ a8 (G, ()) ∧ Chg (fun l => InB j l ∨ l = m) w n ∧ Blk n m 78 #[(iv e.Thread), (iv e.Pc), (sv j e.Regs.length k)] ∧ Own el3 n 0 j k e.Regs ∧ Blk n a4 60 #[(iv ((rd i e.Pc).Op)), (iv ((rd i e.Pc).A)), (iv ((rd i e.Pc).B)), (iv ((rd i e.Pc).C))], ?_, ?_⟩
 ·refine ⟨_, (f.a 0), ?_⟩
  apply brc H<;>intro h H
  ·have b := b.ext (Ext.drew _)
   have c := c.ext (Ext.drew _)
   have f := f.ext (Ext.drew _)
   have d := d.then (Ext.drew _)
   exact ⟨true, rfl, H, d, b, c, f⟩
  refine ⟨_, (f.a 0), ?_⟩
  apply brc H<;>intro h H
  ·refine ⟨_, _, _, (b.a 2), _, (f.a 1), ?_⟩
   obtain ⟨⟨R, S⟩, H⟩ := H
   obtain ⟨aa, ab, ac⟩ := Row.at c.row R S
   refine ⟨R, S, aa, ab, _, (ac 0 _ rfl), ?_⟩
   have b := b.ext (Ext.drew _)
   have c := c.ext (Ext.drew _)
   have f := f.ext (Ext.drew _)
   have d := d.then (Ext.drew _)
   exact ⟨_, rfl, H, d, b, c, f⟩
  have b := b.ext (Ext.drew _)
  have c := c.ext (Ext.drew _)
  have f := f.ext (Ext.drew _)
  have d := d.then (Ext.drew _)
  exact ⟨_, rfl, H, d, b, c, f⟩
 rintro _ al ⟨G, rfl, H, d, b, c, f⟩
 have H := a9 _ H
 try dsimp only at H ⊢
 apply brc H<;>intro h H
 ·refine ⟨_, (f.a 2), ?_⟩
  refine stB b 1 #[(iv e.Thread), (iv ((rd i e.Pc).B)), (sv j e.Regs.length k)] (fun am s T => ?_)
  have c := c.chg T (c.qas b (by decide))
  have d := d.chgb T (Or.inr (Or.inr rfl))
  have b := s
  cases p.trans H.symm
  exact ⟨j, k, rfl, b, (c.mono (Nat.zero_le _)), (Mov.same _ _), d⟩
 refine ⟨(fun _ => False), _, noM (f.a 0), _, noM (f.a 1), _, noM (f.a 2), _, noM (f.a 3), _, noM (b.a 0), _, _, _, noM (b.a 2), ?_⟩
 have b := b.ext (Ext.drew _)
 have c := c.ext (Ext.drew _)
 have d := d.then (Ext.drew _)
 obtain ⟨ad, H⟩ := H
 obtain ⟨an, ae, H⟩ := qap H
 refine (qay.con ad ae (c.mono (Nat.zero_le _))).mono ?_
 rintro _ ao ⟨rfl, Q2, af, U⟩
 have b := b.chgS U ((c.qas b (by decide))).inb
 have c := Q2
 refine ⟨rfl, _, (b.a 1), ?_⟩
 refine stB b 1 #[(iv e.Thread), (iv (wrap .i64 (e.Pc + 1))), (sv j e.Regs.length k)] (fun ap s V => ?_)
 have c := c.chg V (c.qas b (by decide))
 have d := (d.chg U (fun g h_ => (Or.inr (Or.inl h_)))).chgb V (Or.inr (Or.inr rfl))
 have b := s
 cases p.trans H.symm
 exact ⟨j, k, rfl, (by first | exact b | (simp only [bC, wC, List.length_set, af]; exact b)), (c.mono (Nat.zero_le _)), (Mov.same _ _), d⟩
def qaF.vc (p : OA) (q r : Nat) (D E : Int) (F : OA) (G H : Nat) (s : Int) (w : World) (K : VK) : Prop :=
  newK w (.cells #[(iv D), (iv E), (sv F G H)] 78) fun d I => newK I (.cells #[(iv 0), (iv 0), (sv none 0 0)] 78) fun a i => ldI i ((bx d).add 0) fun J => ldI i ((bx d).add 1) fun L => ldS i ((bx d).add 2) fun M N O => Cl 60 #[(.agg #[(iv J), (iv L), (sv M N O)])] i fun P Q => (∃ (t : Int), True ∧ ∃ (u : Int), True ∧ ∃ (v : OA) (x y : Nat), True ∧ P = (.agg #[(iv t), (iv u), (sv v x y)]) ∧ newK Q (.cells #[(iv 0), (iv 0), (sv none 0 0)] 78) fun b R => qag (bx b) [(iv t), (iv u), (sv v x y)] 0 R fun S => Cl 19 #[(sv p q r)] S fun T c => (∃ (z : Bool), T = (.bool z) ∧ qa5 (!z) (ldI c ((bx b).add 0) fun U => ldI c ((bx b).add 1) fun V => ldS c ((bx b).add 2) fun W X Y => qag (bx a) [(iv U), (iv V), (sv W X Y)] 0 c fun j => ldI j ((bx a).add 0) fun Z => ldI j ((bx a).add 1) fun a0 => ldS j ((bx a).add 2) fun a1 a2 a3 => K (.tuple #[(.agg #[(iv Z), (iv a0), (sv a1 a2 a3)]), (iv (-1))]) j) (ldI c ((bx d).add 0) fun a4 => ldI c ((bx d).add 1) fun a5 => ldS c ((bx d).add 2) fun a6 a7 a8 => Cl 61 #[(sv p q r), (.agg #[(iv a4), (iv a5), (sv a6 a7 a8)])] c fun a9 e => (∃ (A : Bool), a9 = (.bool A) ∧ qa5 (!A) (ldI e ((bx b).add 0) fun aa => ldI e ((bx b).add 1) fun ab => ldS e ((bx b).add 2) fun ac ad ae => qag (bx a) [(iv aa), (iv ab), (sv ac ad ae)] 0 e fun k => ldI k ((bx a).add 0) fun af => ldI k ((bx a).add 1) fun ag => ldS k ((bx a).add 2) fun ah ai aj => K (.tuple #[(.agg #[(iv af), (iv ag), (sv ah ai aj)]), (iv (-1))]) k) (Cl 32 #[(iv s), (iv 0), (iv 1000)] e fun ak f => (∃ (B : Bool), ak = (.bool B) ∧ qa5 (!B) (ldI f ((bx b).add 0) fun al => ldI f ((bx b).add 1) fun am => ldS f ((bx b).add 2) fun an ao ap => qag (bx a) [(iv al), (iv am), (sv an ao ap)] 0 f fun l => ldI l ((bx a).add 0) fun aq => ldI l ((bx a).add 1) fun ar => ldS l ((bx a).add 2) fun au av aw => K (.tuple #[(.agg #[(iv aq), (iv ar), (sv au av aw)]), (iv (-1))]) l) (qe9 (σ := Int × Unit) (fun m g ax => qa5 (decide (m.1 < s)) (Cl 62 #[(.pointer (some (bx b))), (sv p q r)] g fun ay h => (∃ (C : Bool), ay = (.bool C) ∧ qa5 C (ax ((wrap .i64 (m.1 + 1)), ()) h) (ldI h ((bx b).add 0) fun az => ldI h ((bx b).add 1) fun aA => ldS h ((bx b).add 2) fun aB aC aD => qag (bx a) [(iv az), (iv aA), (sv aB aC aD)] 0 h fun n => ldI n ((bx a).add 0) fun aE => ldI n ((bx a).add 1) fun aF => ldS n ((bx a).add 2) fun aG aH aI => K (.tuple #[(.agg #[(iv aE), (iv aF), (sv aG aH aI)]), (iv m.1)]) n))) (ldI g ((bx b).add 0) fun aJ => ldI g ((bx b).add 1) fun aK => ldS g ((bx b).add 2) fun aL aM aN => qag (bx a) [(iv aJ), (iv aK), (sv aL aM aN)] 0 g fun o => ldI o ((bx a).add 0) fun aO => ldI o ((bx a).add 1) fun aP => ldS o ((bx a).add 2) fun aQ aR aS => K (.tuple #[(.agg #[(iv aO), (iv aP), (sv aQ aR aS)]), (iv m.1)]) o)) (0, ()) f)))))))

def qaF.ann : Ann := (.seq .l (.seq .l (.seq (.seq .l (.two (.seq .l .l) .l)) (.seq .l (.seq (.one (.loop [(9, .int .i64)] (.seq (.seq .l (.two .l .l)) (.one .l)))) (.seq .l .l))))))

theorem qaF.con {p : List D.Ins} {O P : OA} {Q R : Nat} {i : D.Lane} {u : Int} {r : D.Lane × Int} {w : World} (hp : M.qcl p i u) (v : r = M.qaF p i u) (x : Row el60 w O p) (S : p.length ≤ Q) (Y : Row el3 w P i.Regs) (Z : i.Regs.length ≤ R) :
    Cl 58 #[(sv O p.length Q), (.agg #[(iv i.Thread), (iv i.Pc), (sv P i.Regs.length R)]), (iv u)] w (fun v_ q => ∃ (a0 : OA) (a1 : Nat), v_ = (.tuple #[(.agg #[(iv r.1.Thread), (iv r.1.Pc), (sv a0 r.1.Regs.length a1)]), (iv r.2)]) ∧ Own el3 q w.heap.size a0 a1 r.1.Regs ∧ Ext w q) := by
 have H := wp.qaF.math p i u hp
 refine begK mixed Try.f58 ann (vc O p.length Q i.Thread i.Pc P i.Regs.length R u) ?_
 unfold vc
 unfold wp.qaF at H
 refine qbE (fun aD aE L3 j ac => ?_)
 have c := qam (Ext.refl w) ac
 refine qbE (fun ad aF s y a2 => ?_)
 have j := j.ext a2
 have b := y
 have s := Nat.le_trans c.size s
 have c := qam c a2
 refine ⟨_, (j.a 0), _, (j.a 1), _, _, _, (j.a 2), ?_⟩
 obtain ⟨ae, H⟩ := H
 obtain ⟨e, af, H⟩ := qap H
 refine (qb1.con ae af (Y.ext c) Z).mono ?_
 rintro _ aG ⟨k, l, rfl, P5, T⟩
 have U := P5.qbk b.lt
 have b := b.ext T
 have f := P5.mono c.size
 have c := qam c T
 refine ⟨e.Thread, trivial, e.Pc, trivial, k, e.Regs.length, l, trivial, rfl, ?_⟩
 refine qgn #[(iv e.Thread), (iv e.Pc), (sv k e.Regs.length l)] (fun ag aH z d G => ?_)
 have ah := b.ne z
 have z := Nat.le_trans c.size z
 have c := qam c G
 obtain ⟨ai, H⟩ := H
 obtain ⟨aj, ak, H⟩ := qap H
 refine (qaJ.con ai ak (x.ext c) S).mono ?_
 rintro _ aI ⟨rfl, A⟩
 have j := ((j.ext T).ext G).ext A
 have b := (b.ext G).ext A
 have f := (f.ext G).ext A
 have d := d.ext A
 have c := qam c A
 refine ⟨aj, rfl, ?_⟩
 apply brc H<;>intro h H
 ·refine ⟨_, (d.a 0), _, (d.a 1), _, _, _, (d.a 2), ?_⟩
  refine qcb b (o := 0) (cs' := #[(iv e.Thread), (iv e.Pc), (sv k e.Regs.length l)]) rfl rfl (Nat.le_of_ble_eq_true rfl) rfl (fun aJ b a3 => ?_)
  have f := f.chg a3 U
  have c := echg c a3 s
  refine ⟨_, (b.a 0), _, (b.a 1), _, _, _, (b.a 2), ?_⟩
  cases v.trans H.symm
  exact ⟨k, l, rfl, f, c⟩
 refine ⟨_, (j.a 0), _, (j.a 1), _, _, _, (j.a 2), ?_⟩
 obtain ⟨al, H⟩ := H
 obtain ⟨am, an, H⟩ := qap H
 refine (qb6.con al an (x.ext c) S (Y.ext c) Z).mono ?_
 rintro _ aK ⟨rfl, I⟩
 have b := b.ext I
 have f := f.ext I
 have d := d.ext I
 have c := qam c I
 refine ⟨am, rfl, ?_⟩
 apply brc H<;>intro h H
 ·refine ⟨_, (d.a 0), _, (d.a 1), _, _, _, (d.a 2), ?_⟩
  refine qcb b (o := 0) (cs' := #[(iv e.Thread), (iv e.Pc), (sv k e.Regs.length l)]) rfl rfl (Nat.le_of_ble_eq_true rfl) rfl (fun aL b a4 => ?_)
  have f := f.chg a4 U
  have c := echg c a4 s
  refine ⟨_, (b.a 0), _, (b.a 1), _, _, _, (b.a 2), ?_⟩
  cases v.trans H.symm
  exact ⟨k, l, rfl, f, c⟩
 obtain ⟨ao, ap, H⟩ := qap H
 refine (qab.con ap ).mono ?_
 rintro _ aM ⟨rfl, J⟩
 have b := b.ext J
 have f := f.ext J
 have d := d.ext J
 have c := qam c J
 refine ⟨ao, rfl, ?_⟩
 apply brc H<;>intro h H
 ·refine ⟨_, (d.a 0), _, (d.a 1), _, _, _, (d.a 2), ?_⟩
  refine qcb b (o := 0) (cs' := #[(iv e.Thread), (iv e.Pc), (sv k e.Regs.length l)]) rfl rfl (Nat.le_of_ble_eq_true rfl) rfl (fun aN b a5 => ?_)
  have f := f.chg a5 U
  have c := echg c a5 s
  refine ⟨_, (b.a 0), _, (b.a 1), _, _, _, (b.a 2), ?_⟩
  cases v.trans H.symm
  exact ⟨k, l, rfl, f, c⟩
 obtain ⟨aq, ⟨ar, au⟩, a6⟩ := H
 refine ⟨fun m_ z_ q => ∃ (V K L : Int) (B : List Int) (C : OA) (E : Nat), z_ = (V, ()) ∧ aq m_ (V, K, L, B, ()) ∧ Ext w q ∧ Blk q ag 78 #[(iv K), (iv L), (sv C B.length E)] ∧ Own el3 q w.heap.size C E B ∧ Blk q ad 78 #[(iv 0), (iv 0), (sv none 0 0)], ⟨ar, 0, e.Thread, e.Pc, e.Regs, k, l, rfl, au, c, d, f, b⟩, ?_⟩
 rintro av _ aO ⟨V, K, L, B, C, E, rfl, a7, c, d, m, b⟩
 have H := a6 av _ a7
 clear a6 a7
 try dsimp only at H ⊢
 apply brc H<;>intro h H
 ·obtain ⟨aw, H⟩ := H
  obtain ⟨N, ax, H⟩ := qap H
  refine (qai.con aw ax d (m.mono (Nat.zero_le _)) (x.ext c) S (fun a8 => (fun g t => (fun n => n.elim ((fun g t n => Nat.not_le.2 (x.old a8 g t) (m.low g n)) g t) ((fun g t n => Nat.not_le.2 (x.old a8 g t) (qdE z _ n)) g t))))).mono ?_
  rintro _ aP ⟨W, X, rfl, Q6, Q9, ay, a9⟩
  have az := ay.low m.low c.size
  have b := b.chgS a9 (fun n => n.elim ((m.qas b (by decide))).inb (ah))
  have c := Chg.ext c a9 (fun g => (fun n => n.elim (m.low g) ((qdE z) g)))
  have d := Q6
  have F := Q9.lift az
  refine ⟨N.1, rfl, ?_⟩
  apply brc H<;>intro h H
  ·obtain ⟨aA, aB, aC⟩ := H
   exact ⟨aA, aB, _, _, _, _, W, X, rfl, aC, c, d, F, b⟩
  refine ⟨_, (d.a 0), _, (d.a 1), _, _, _, (d.a 2), ?_⟩
  refine stB b 0 #[(iv N.2.Thread), (iv N.2.Pc), (sv W N.2.Regs.length X)] (fun aQ y aa => ?_)
  have F := F.chg aa (F.qas b (by decide))
  have c := echg c aa s
  have b := y
  refine ⟨_, (b.a 0), _, (b.a 1), _, _, _, (b.a 2), ?_⟩
  cases v.trans H.symm
  exact ⟨W, X, rfl, F, c⟩
 refine ⟨_, (d.a 0), _, (d.a 1), _, _, _, (d.a 2), ?_⟩
 refine stB b 0 #[(iv K), (iv L), (sv C B.length E)] (fun aR y ab => ?_)
 have m := m.chg ab (m.qas b (by decide))
 have c := echg c ab s
 have b := y
 refine ⟨_, (b.a 0), _, (b.a 1), _, _, _, (b.a 2), ?_⟩
 cases v.trans H.symm
 exact ⟨C, E, rfl, m, c⟩
def qaG.vc (x : OA) (n y : Nat) (o : Int) (w : World) (K : VK) : Prop :=
  newK w (.cells #[(iv 0), (iv 0), (sv none 0 0)] 78) fun a z => Cl 48 #[(iv o)] z fun A p => (∃ (q : Bool), A = (.bool q) ∧ qa5 (!q) (qag (bx a) [(iv 0), (iv 0), (sv none 0 0)] 0 p fun d => ldI d ((bx a).add 0) fun B => ldI d ((bx a).add 1) fun C => ldS d ((bx a).add 2) fun D E F => K (.tuple #[(.agg #[(iv B), (iv C), (sv D E F)]), (iv 0), (.bool false)]) d) (Cl 59 #[(iv o)] p fun G H => (∃ (r : Int), True ∧ ∃ (s : Int), True ∧ ∃ (t : OA) (u v : Nat), True ∧ G = (.agg #[(iv r), (iv s), (sv t u v)]) ∧ Cl 58 #[(sv x n y), (.agg #[(iv r), (iv s), (sv t u v)]), (iv 1000)] H fun I J => (∃ L : Value, (∃ (i : Int), True ∧ ∃ (j : Int), True ∧ ∃ (k : OA) (l m : Nat), True ∧ L = (.agg #[(iv i), (iv j), (sv k l m)]) ∧ ∃ M : Value, (∃ (e : Int), M = (iv e) ∧ I = (.tuple #[(.agg #[(iv i), (iv j), (sv k l m)]), (iv e)]) ∧ newK J (.cells #[(iv 0), (iv 0), (sv none 0 0)] 78) fun c N => qag (bx c) [(iv i), (iv j), (sv k l m)] 0 N fun b => qa5 (decide (e < 0)) (qag (bx a) [(iv 0), (iv 0), (sv none 0 0)] 0 b fun f => ldI f ((bx a).add 0) fun O => ldI f ((bx a).add 1) fun P => ldS f ((bx a).add 2) fun Q R S => K (.tuple #[(.agg #[(iv O), (iv P), (sv Q R S)]), (iv 0), (.bool false)]) f) (ldI b (((bx c).add 1).add 0) fun T => qa5 (T != ((n : Nat) : Int)) (qag (bx a) [(iv 0), (iv 0), (sv none 0 0)] 0 b fun g => ldI g ((bx a).add 0) fun U => ldI g ((bx a).add 1) fun V => ldS g ((bx a).add 2) fun W X Y => K (.tuple #[(.agg #[(iv U), (iv V), (sv W X Y)]), (iv 0), (.bool false)]) g) (ldI b ((bx c).add 0) fun Z => ldI b ((bx c).add 1) fun a0 => ldS b ((bx c).add 2) fun a1 a2 a3 => qag (bx a) [(iv Z), (iv a0), (sv a1 a2 a3)] 0 b fun h => ldI h ((bx a).add 0) fun a4 => ldI h ((bx a).add 1) fun a5 => ldS h ((bx a).add 2) fun a6 a7 a8 => K (.tuple #[(.agg #[(iv a4), (iv a5), (sv a6 a7 a8)]), (iv e), (.bool true)]) h))))))))

def qaG.ann : Ann := (.seq .l (.seq (.seq .l (.two (.seq .l .l) .l)) (.seq .l (.seq (.seq .l (.two (.seq .l .l) .l)) (.seq .l .l)))))

theorem qaG.con {f : List D.Ins} {p : OA} {q : Nat} {j : Int} {r : D.Lane × Int × Bool} {w : World} (G : M.qcx f j) (n : r = M.qaG f j) (I : Row el60 w p f) (J : f.length ≤ q) :
    Cl 54 #[(sv p f.length q), (iv j)] w (fun K v => ∃ (x : OA) (y : Nat), K = (.tuple #[(.agg #[(iv r.1.Thread), (iv r.1.Pc), (sv x r.1.Regs.length y)]), (iv r.2.1), (.bool r.2.2)]) ∧ Own el3 v w.heap.size x y r.1.Regs ∧ Ext w v) := by
 have H := wp.qaG.math f j G
 have c := Ext.refl w
 refine begK mixed Try.f54 ann (vc p f.length q j) ?_
 unfold vc
 unfold wp.qaG at H
 refine qbE (fun a4 a5 g L N => ?_)
 have g := Nat.le_trans c.size g
 obtain ⟨O, P, H⟩ := qap H
 refine (qax.con P ).mono ?_
 rintro _ a6 ⟨rfl, z⟩
 have b := L.ext z
 have c := qam (qam c N) z
 refine ⟨O, rfl, ?_⟩
 apply brc H<;>intro h H
 ·refine qcb b (o := 0) (cs' := #[(iv 0), (iv 0), (sv none 0 0)]) rfl rfl (Nat.le_of_ble_eq_true rfl) rfl (fun a7 b Q => ?_)
  have c := echg c Q g
  refine ⟨_, (b.a 0), _, (b.a 1), _, _, _, (b.a 2), ?_⟩
  cases n.trans H.symm
  exact ⟨none, 0, rfl, Own.nil, c⟩
 obtain ⟨s, R, H⟩ := qap H
 refine (qaZ.con R ).mono ?_
 rintro _ a8 ⟨S, T, rfl, U, A⟩
 have b := b.ext A
 have B := U.mono c.size
 have c := qam c A
 refine ⟨s.Thread, trivial, s.Pc, trivial, S, s.Regs.length, T, trivial, rfl, ?_⟩
 obtain ⟨V, H⟩ := H
 obtain ⟨d, W, H⟩ := qap H
 refine (qaF.con V W (I.ext c) J B.row B.le).mono ?_
 rintro _ a9 ⟨k, l, rfl, C, E⟩
 have X := C.qbk b.lt
 have b := b.ext E
 have e := C.mono c.size
 have c := qam c E
 refine ⟨(.agg #[(iv d.1.Thread), (iv d.1.Pc), (sv k d.1.Regs.length l)]), d.1.Thread, trivial, d.1.Pc, trivial, k, d.1.Regs.length, l, trivial, rfl, (iv d.2), d.2, rfl, rfl, ?_⟩
 refine qbE (fun aa ab m Y t => ?_)
 have Z := b.ne m
 have a0 := e.qcS m
 have e := e.ext t
 have i := Y
 have m := Nat.le_trans c.size m
 have c := qam c t
 refine qcb i (o := 0) (cs' := #[(iv d.1.Thread), (iv d.1.Pc), (sv k d.1.Regs.length l)]) rfl rfl (Nat.le_of_ble_eq_true rfl) rfl (fun ac i u => ?_)
 have b := (b.ext t).chg u Z
 have a1 := e.chg u a0
 have e := a1
 have c := echg c u m
 apply brc H<;>intro h H
 ·refine qcb b (o := 0) (cs' := #[(iv 0), (iv 0), (sv none 0 0)]) rfl rfl (Nat.le_of_ble_eq_true rfl) rfl (fun ad b a2 => ?_)
  have c := echg c a2 g
  refine ⟨_, (b.a 0), _, (b.a 1), _, _, _, (b.a 2), ?_⟩
  cases n.trans H.symm
  exact ⟨none, 0, rfl, Own.nil, c⟩
 refine ⟨_, (i.a 1), ?_⟩
 apply brc H<;>intro h H
 ·refine qcb b (o := 0) (cs' := #[(iv 0), (iv 0), (sv none 0 0)]) rfl rfl (Nat.le_of_ble_eq_true rfl) rfl (fun ae b a3 => ?_)
  have c := echg c a3 g
  refine ⟨_, (b.a 0), _, (b.a 1), _, _, _, (b.a 2), ?_⟩
  cases n.trans H.symm
  exact ⟨none, 0, rfl, Own.nil, c⟩
 refine ⟨_, (i.a 0), _, (i.a 1), _, _, _, (i.a 2), ?_⟩
 refine qcb b (o := 0) (cs' := #[(iv d.1.Thread), (iv d.1.Pc), (sv k d.1.Regs.length l)]) rfl rfl (Nat.le_of_ble_eq_true rfl) rfl (fun af b F => ?_)
 have e := e.chg F X
 have c := echg c F g
 refine ⟨_, (b.a 0), _, (b.a 1), _, _, _, (b.a 2), ?_⟩
 cases n.trans H.symm
 exact ⟨k, l, rfl, e, c⟩
def qb2.vc (l : OA) (m n : Nat) (o : Int) (w : World) (K : VK) : Prop :=
  newK w (.cells #[(iv 0), (iv 0), (sv none 0 0)] 78) fun a p => Cl 54 #[(sv l m n), (iv o)] p fun q r => (∃ s : Value, (∃ (e : Int), True ∧ ∃ (f : Int), True ∧ ∃ (g : OA) (h i : Nat), True ∧ s = (.agg #[(iv e), (iv f), (sv g h i)]) ∧ ∃ t : Value, (∃ (k : Int), t = (iv k) ∧ ∃ u : Value, (∃ (j : Bool), u = (.bool j) ∧ q = (.tuple #[(.agg #[(iv e), (iv f), (sv g h i)]), (iv k), (.bool j)]) ∧ newK r (.cells #[(iv 0), (iv 0), (sv none 0 0)] 78) fun b v => qag (bx b) [(iv e), (iv f), (sv g h i)] 0 v fun c => ldI c ((bx b).add 0) fun x => ldI c ((bx b).add 1) fun y => ldS c ((bx b).add 2) fun z A B => qag (bx a) [(iv x), (iv y), (sv z A B)] 0 c fun d => ldI d ((bx a).add 0) fun C => ldI d ((bx a).add 1) fun D => ldS d ((bx a).add 2) fun E F G => K (.tuple #[(.agg #[(iv C), (iv D), (sv E F G)]), (.bool j)]) d))))

def qb2.ann : Ann := (.seq .l (.seq .l (.seq .l .l)))

theorem qb2.con {e : List D.Ins} {l : OA} {m : Nat} {g : Int} {r : D.Lane × Bool} {w : World} (z : M.qcf e g) (A : r = M.qb2 e g) (B : Row el60 w l e) (C : e.length ≤ m) :
    Cl 49 #[(sv l e.length m), (iv g)] w (fun E s => ∃ (t : OA) (u : Nat), E = (.tuple #[(.agg #[(iv r.1.Thread), (iv r.1.Pc), (sv t r.1.Regs.length u)]), (.bool r.2)]) ∧ Own el3 s w.heap.size t u r.1.Regs ∧ Ext w s) := by
 have H := wp.qb2.math e g z
 have c := Ext.refl w
 refine begK mixed Try.f49 ann (vc l e.length m g) ?_
 unfold vc
 unfold wp.qb2 at H
 refine qbE (fun Q R n F G => ?_)
 have d := F
 have n := Nat.le_trans c.size n
 have c := qam c G
 obtain ⟨I, H⟩ := H
 obtain ⟨b, J, H⟩ := qap H
 refine (qaG.con I J (B.ext c) C).mono ?_
 rintro _ S ⟨h, i, rfl, v, x⟩
 have K := v.qbk d.lt
 have d := d.ext x
 have f := v.mono c.size
 have c := qam c x
 refine ⟨(.agg #[(iv b.1.Thread), (iv b.1.Pc), (sv h b.1.Regs.length i)]), b.1.Thread, trivial, b.1.Pc, trivial, h, b.1.Regs.length, i, trivial, rfl, (iv b.2.1), b.2.1, rfl, (.bool b.2.2), b.2.2, rfl, rfl, ?_⟩
 refine qbE (fun T U j L p => ?_)
 have N := d.ne j
 have O := f.qcS j
 have f := f.ext p
 have k := L
 have j := Nat.le_trans c.size j
 have c := qam c p
 refine qcb k (o := 0) (cs' := #[(iv b.1.Thread), (iv b.1.Pc), (sv h b.1.Regs.length i)]) rfl rfl (Nat.le_of_ble_eq_true rfl) rfl (fun V k q => ?_)
 have d := (d.ext p).chg q N
 have P := f.chg q O
 have c := echg c q j
 refine ⟨_, (k.a 0), _, (k.a 1), _, _, _, (k.a 2), ?_⟩
 refine qcb d (o := 0) (cs' := #[(iv b.1.Thread), (iv b.1.Pc), (sv h b.1.Regs.length i)]) rfl rfl (Nat.le_of_ble_eq_true rfl) rfl (fun W d y => ?_)
 have f := P.chg y K
 have c := echg c y n
 refine ⟨_, (d.a 0), _, (d.a 1), _, _, _, (d.a 2), ?_⟩
 cases A.trans H.symm
 exact ⟨h, i, rfl, f, c⟩
def qaz.vc (b : Int) (w : World) (K : VK) : Prop :=
  Cl 32 #[(iv b), (iv 0), (iv 2)] w fun c d => (∃ (a : Bool), c = (.bool a) ∧ K (.bool a) d)

def qaz.ann : Ann := (.seq .l (.seq .l .l))

theorem qaz.con {a : Int} {r : Bool} {w : World} (b : r = M.qaz a)  :
    Cl 38 #[(iv a)] w (fun c d => c = (.bool r) ∧ Ext w d) := by
 have H := wp.qaz.math a
 refine begK mixed Try.f38 ann (vc a) ?_
 unfold vc
 unfold wp.qaz at H
 obtain ⟨e, f, H⟩ := qap H
 refine (qab.con f ).mono ?_
 rintro _ i ⟨rfl, g⟩
 have h := qam (Ext.refl w) g
 refine ⟨e, rfl, ?_⟩
 cases b.trans H.symm
 exact ⟨rfl, h⟩
def qaK.vc (x : OA) (y z : Nat) (i j : Int) (w : World) (K : VK) : Prop :=
  Cl 32 #[(iv j), (iv 1), (iv 24)] w fun A k => (∃ (l : Bool), A = (.bool l) ∧ qa5 (!l) (K (.tuple #[(sv none 0 0), (.bool false)]) k) (Cl 48 #[(iv i)] k fun B m => (∃ (n : Bool), B = (.bool n) ∧ qa5 (!n) (K (.tuple #[(sv none 0 0), (.bool false)]) m) (Run Try.prog (Instr.buildSlice 37 0 #[]) m fun C D => ∃ (o : OA) (p q : Nat), C = .slice o p q ∧ qe9 (σ := (OA × Nat × Nat) × Int × Unit) (fun a r E => qa5 (decide (a.2.1 < j)) (Cl 49 #[(sv x y z), (iv (wrap .i64 (i + a.2.1)))] r fun F G => (∃ H : Value, (∃ (b : Int), True ∧ ∃ (c : Int), True ∧ ∃ (d : OA) (e f : Nat), True ∧ H = (.agg #[(iv b), (iv c), (sv d e f)]) ∧ ∃ I : Value, (∃ (g : Bool), I = (.bool g) ∧ F = (.tuple #[(.agg #[(iv b), (iv c), (sv d e f)]), (.bool g)]) ∧ newK G (.cells #[(iv 0), (iv 0), (sv none 0 0)] 78) fun s J => qag (bx s) [(iv b), (iv c), (sv d e f)] 0 J fun h => qa5 (!g) (K (.tuple #[(sv none 0 0), (.bool false)]) h) (ldS h (((bx s).add 2).add 0) fun L M N => Run Try.prog (Builtin.append_ #[37, 37] 37 #[(sv a.1.1 a.1.2.1 a.1.2.2), (sv L M N)]) h fun O P => ∃ (t : OA) (u v : Nat), O = .slice t u v ∧ E ((t, u, v), (wrap .i64 (a.2.1 + 1)), ()) P))))) (K (.tuple #[(sv a.1.1 a.1.2.1 a.1.2.2), (.bool true)]) r)) ((o, p, q), 0, ()) D))))

def qaK.ann : Ann := (.seq .l (.seq (.seq .l (.two (.seq .l .l) .l)) (.seq .l (.seq (.seq .l (.one (.loop [(8, .sl), (22, .int .i64)] (.seq .l (.seq (.two .l .l) (.seq (.one (.seq .l (.seq .l (.seq (.seq .l (.two (.seq .l .l) .l)) .l)))) .l)))))) (.seq .l .l)))))

theorem qaK.con {d : List D.Ins} {n : OA} {o : Nat} {f g : Int} {r : (List Int) × Bool} {w : World} (B : M.qbQ d f g) (j : r = M.qaK d f g) (C : Row el60 w n d) (E : d.length ≤ o) :
    Cl 39 #[(sv n d.length o), (iv f), (iv g)] w (fun F i => ∃ (v : OA) (x : Nat), F = (.tuple #[(sv v r.1.length x), (.bool r.2)]) ∧ Own el3 i w.heap.size v x r.1 ∧ Ext w i) := by
 have H := wp.qaK.math d f g B
 refine begK mixed Try.f39 ann (vc n d.length o f g) ?_
 unfold vc
 unfold wp.qaK at H
 obtain ⟨G, I, H⟩ := qap H
 refine (qab.con I ).mono ?_
 rintro _ a7 ⟨rfl, J⟩
 have b := qam (Ext.refl w) J
 refine ⟨G, rfl, ?_⟩
 apply brc H<;>intro h H
 ·cases j.trans H.symm
  exact ⟨none, 0, rfl, Own.nil, b⟩
 obtain ⟨K, L, H⟩ := qap H
 refine (qax.con L ).mono ?_
 rintro _ a8 ⟨rfl, N⟩
 have b := qam b N
 refine ⟨K, rfl, ?_⟩
 apply brc H<;>intro h H
 ·cases j.trans H.symm
  exact ⟨none, 0, rfl, Own.nil, b⟩
 refine qbo el3 ([] : List Int) (fun _ => by kernel_rfl) rfl (fun O a9 P Q => ?_)
 have R := P.mono b.size
 have b := qam b Q
 obtain ⟨S, ⟨T, U⟩, y⟩ := H
 refine ⟨fun V W i => ∃ (k : List Int) (p : Int) (l : OA) (m : Nat), W = ((l, k.length, m), p, ()) ∧ S V (k, p, ()) ∧ Ext w i ∧ Own el3 i w.heap.size l m k, ⟨T, ([] : List Int), 0, O, 0, rfl, U, b, R⟩, ?_⟩
 rintro X _ aa ⟨k, p, l, m, rfl, z, b, e⟩
 have H := y X _ z
 clear y z
 try dsimp only at H ⊢
 apply brc H<;>intro h H
 ·obtain ⟨Y, H⟩ := H
  obtain ⟨c, Z, H⟩ := qap H
  refine (qb2.con Y Z (C.ext b) E).mono ?_
  rintro _ ab ⟨q, s, rfl, P4, A⟩
  have t := P4.mono b.size
  refine ⟨(.agg #[(iv c.1.Thread), (iv c.1.Pc), (sv q c.1.Regs.length s)]), c.1.Thread, trivial, c.1.Pc, trivial, q, c.1.Regs.length, s, trivial, rfl, (.bool c.2), c.2, rfl, rfl, ?_⟩
  refine qgn #[(iv c.1.Thread), (iv c.1.Pc), (sv q c.1.Regs.length s)] (fun ac ad L5 O5 u => ?_)
  have e := (e.ext A).ext u
  have t := t.ext u
  have b := qam (qam b A) u
  apply brc H<;>intro h H
  ·cases j.trans H.symm
   exact ⟨none, 0, rfl, Own.nil, b⟩
  refine ⟨_, _, _, (O5.a 2), ?_⟩
  obtain ⟨a0, H⟩ := H
  refine appO qgf e t.row b.size a0 (fun a1 a2 ae P3 a3 => ?_)
  have b := eapp b a3 e
  have e := P3
  obtain ⟨a4, a5, a6⟩ := H
  exact ⟨a4, a5, _, _, a1, a2, rfl, a6, b, e⟩
 cases j.trans H.symm
 exact ⟨l, m, rfl, e, b⟩
def qao.vc (p : OA) (q r : Nat) (s : OA) (t u : Nat) (d : Int) (w : World) (K : VK) : Prop :=
  Cl 38 #[(iv d)] w fun v k => (∃ (l : Bool), v = (.bool l) ∧ qa5 (!l) (K (iv (-1)) k) (Cl 39 #[(sv p q r), (iv (wrap .i64 (d * 8))), (iv 8)] k fun x y => (∃ z : Value, (∃ (e : OA) (c m : Nat), z = (sv e c m) ∧ ∃ A : Value, (∃ (f : Bool), A = (.bool f) ∧ x = (.tuple #[(sv e c m), (.bool f)]) ∧ Cl 39 #[(sv s t u), (iv (wrap .i64 (d * 8))), (iv 8)] y fun B g => (∃ C : Value, (∃ (h : OA) (i n : Nat), C = (sv h i n) ∧ ∃ D : Value, (∃ (j : Bool), D = (.bool j) ∧ B = (.tuple #[(sv h i n), (.bool j)]) ∧ qa5 (!f) (K (iv (-1)) g) (qa5 (!j) (K (iv (-1)) g) (qe9 (σ := Int × Int × Unit) (fun a b o => qa5 (decide (a.2.1 < ((c : Nat) : Int))) ((idx a.2.1 c e fun E => ldI b ((E.add ((a.2.1.toNat) * 1)).add 0) fun F => (idx a.2.1 i h fun G => ldI b ((G.add ((a.2.1.toNat) * 1)).add 0) fun H => qa5 (F != H) (((4 : Int) ≠ 0 ∧ ((0 : Int) ≤ (wrap .i64 (Int.tdiv a.2.1 4)) ∧ o ((qfP .i64 a.1 (wrap .i64 (1 * 2 ^ (min ((wrap .i64 (Int.tdiv a.2.1 4)).toNat) (IntKind.bits .i64))))), (wrap .i64 (a.2.1 + 1)), ()) b.drew))) (o (a.1, (wrap .i64 (a.2.1 + 1)), ()) b.drew)))) (K (iv a.1) b)) (0, 0, ()) g))))))))))

def qao.ann : Ann := (.seq .l (.seq (.seq .l (.two (.seq .l .l) .l)) (.seq .l (.seq .l (.seq (.seq .l (.two (.seq .l .l) .l)) (.seq .l (.seq (.seq .l (.one (.loop [(11, .int .i64), (38, .int .i64)] (.seq .l (.seq (.two .l .l) (.seq (.one (.seq .l (.seq .l (.two .l .l)))) .l)))))) (.seq .l .l))))))))

theorem qao.con {c d : List D.Ins} {m n : OA} {o p : Nat} {f r : Int} {w : World} (F : M.qbt c d f) (k : r = M.qao c d f) (G : Row el60 w m c) (I : c.length ≤ o) (J : Row el60 w n d) (K : d.length ≤ p) :
    Cl 21 #[(sv m c.length o), (sv n d.length p), (iv f)] w (fun L g => L = (iv r) ∧ Ext w g) := by
 have H := wp.qao.math c d f F
 refine begK mixed Try.f21 ann (vc m c.length o n d.length p f) ?_
 unfold vc
 unfold wp.qao at H
 obtain ⟨N, O, H⟩ := qap H
 refine (qaz.con O ).mono ?_
 rintro _ ae ⟨rfl, P⟩
 have a := qam (Ext.refl w) P
 refine ⟨N, rfl, ?_⟩
 apply brc H<;>intro h H
 ·cases k.trans H.symm
  exact ⟨rfl, a⟩
 obtain ⟨Q, H⟩ := H
 obtain ⟨i, R, H⟩ := qap H
 refine (qaK.con Q R (G.ext a) I).mono ?_
 rintro _ af ⟨q, s, rfl, S, T⟩
 have b := S.mono a.size
 have a := qam a T
 refine ⟨(sv q i.1.length s), q, i.1.length, s, rfl, (.bool i.2), i.2, rfl, rfl, ?_⟩
 obtain ⟨U, H⟩ := H
 obtain ⟨j, V, H⟩ := qap H
 refine (qaK.con U V (J.ext a) K).mono ?_
 rintro _ ag ⟨t, u, rfl, W, x⟩
 have b := b.ext x
 have e := W.mono a.size
 have a := qam a x
 refine ⟨(sv t j.1.length u), t, j.1.length, u, rfl, (.bool j.2), j.2, rfl, rfl, ?_⟩
 apply brc H<;>intro h H
 ·cases k.trans H.symm
  exact ⟨rfl, a⟩
 apply brc H<;>intro h H
 ·cases k.trans H.symm
  exact ⟨rfl, a⟩
 obtain ⟨X, ⟨Y, Z⟩, y⟩ := H
 refine ⟨fun m_ z_ g => ∃ (l v : Int), z_ = (l, v, ()) ∧ X m_ (l, v, ()) ∧ Ext w g ∧ Own el3 g w.heap.size q s i.1 ∧ Own el3 g w.heap.size t u j.1, ⟨Y, 0, 0, rfl, Z, a, b, e⟩, ?_⟩
 rintro a0 _ ah ⟨l, v, rfl, z, a, b, e⟩
 have H := y a0 _ z
 clear y z
 try dsimp only at H ⊢
 apply brc H<;>intro h H
 ·obtain ⟨⟨A, B⟩, H⟩ := H
  obtain ⟨a1, a2, a3⟩ := Row.at b.row A B
  refine ⟨A, B, a1, a2, _, (a3 0 _ rfl), ?_⟩
  obtain ⟨⟨C, E⟩, H⟩ := H
  obtain ⟨a4, a5, a6⟩ := Row.at e.row C E
  refine ⟨C, E, a4, a5, _, (a6 0 _ rfl), ?_⟩
  have b := b.ext (Ext.drew _)
  have e := e.ext (Ext.drew _)
  have a := qam a (Ext.drew _)
  apply brc H<;>intro h H
  ·refine ⟨by decide, ?_⟩
   obtain ⟨a7, H⟩ := H
   refine ⟨a7, ?_⟩
   obtain ⟨a8, a9, aa⟩ := H
   exact ⟨a8, a9, _, _, rfl, aa, a, b, e⟩
  obtain ⟨ab, ac, ad⟩ := H
  exact ⟨ab, ac, l, _, rfl, ad, a, b, e⟩
 cases k.trans H.symm
 exact ⟨rfl, a⟩
def qaf.vc (d : OA) (b e : Nat) (w : World) (K : VK) : Prop :=
  qe9 (σ := Int × Int × Unit) (fun a c g => qa5 (decide (a.2.1 < ((b : Nat) : Int))) (qa5 (decide (a.2.1 < 4000)) ((idx a.2.1 b d fun h => ∃ (f : Int), c.cell? ((h.add ((a.2.1.toNat) * 1)).add 0) = some (.int .u8 f) ∧ g ((qbU .i64 (wrap .i64 ((wrap .i64 ((wrap .i64 (a.1 * 131)) + (wrap .i64 f))) + 7)) 1073741823), (wrap .i64 (a.2.1 + 1)), ()) c)) (newK c (.cells #[(sv d b e), (iv 0), (iv a.1)] 71) fun i j => K (.pointer (some (bx i))) j)) (newK c (.cells #[(sv d b e), (iv 0), (iv a.1)] 71) fun k l => K (.pointer (some (bx k))) l)) ((wrap .i64 (98561 + ((b : Nat) : Int))), 0, ()) w

def qaf.ann : Ann := (.seq .l (.seq .l (.seq (.seq .l (.one (.loop [(3, .int .i64), (4, .int .i64)] (.seq (.seq .l (.two .l .l)) (.seq (.one .l) .l))))) (.seq .l .l))))

theorem qaf.con {c : List Int} {d : OA} {e : Nat} {r : D.Cur} {w : World} (t : M.qbZ c) (n : r = M.qaf c) (u : Row el5 w d c) (S : c.length ≤ e) :
    Cl 28 #[(sv d c.length e)] w (fun v f => ∃ (g : Nat), v = (.pointer (some (bx g))) ∧ Blk f g 71 #[(sv d r.b.length e), (iv r.i), (iv r.h)] ∧ r.b = c ∧ w.heap.size ≤ g ∧ Ext w f) := by
 have H := wp.qaf.math c t
 have a := Ext.refl w
 refine begK mixed Try.f28 ann (vc d c.length e) ?_
 unfold vc
 unfold wp.qaf at H
 obtain ⟨x, ⟨y, z⟩, o⟩ := H
 refine ⟨fun A B f => ∃ (j k : Int), B = (j, k, ()) ∧ x A (j, k, ()) ∧ Ext w f, ⟨y, (wrap .i64 (98561 + (c.length : Int))), 0, rfl, z, a⟩, ?_⟩
 rintro C _ T ⟨j, k, rfl, p, a⟩
 have H := o C _ p
 clear o p
 try dsimp only at H ⊢
 apply brc H<;>intro h H
 ·apply brc H<;>intro h H
  ·obtain ⟨⟨q, s⟩, H⟩ := H
   obtain ⟨E, F, G⟩ := Row.at (u.ext a) q s
   refine ⟨q, s, E, F, _, (G 0 _ rfl), ?_⟩
   obtain ⟨I, J, K⟩ := H
   exact ⟨I, J, _, _, rfl, K, a⟩
  refine qbE (fun L U l N O => ?_)
  have l := Nat.le_trans a.size l
  have a := qam a O
  cases n.trans H.symm
  exact ⟨L, rfl, N, rfl, l, a⟩
 refine qbE (fun P V m Q R => ?_)
 have m := Nat.le_trans a.size m
 have a := qam a R
 cases n.trans H.symm
 exact ⟨P, rfl, Q, rfl, m, a⟩
def qa4.vc (a : Addr) (w : World) (K : VK) : Prop :=
  ldI w ((a.add 2).add 0) fun l => qag (a.add 2) [(iv (wrap .i64 ((wrap .i64 (l * 6364136223846793005)) + 1442695040888963407)))] 0 w fun b => ldI b ((a.add 2).add 0) fun d => ((0 : Int) ≤ 33 ∧ ldI b ((a.add 2).add 0) fun e => ((0 : Int) ≤ 45 ∧ ∃ (f : Int), b.drew.cell? ((a.add 1).add 0) = some (iv f) ∧ ∃ (m : OA) (g n : Nat), b.drew.cell? ((a.add 0).add 0) = some (sv m g n) ∧ qa5 (decide (f < ((g : Nat) : Int))) (∃ (h : OA) (i o : Nat), b.drew.drew.cell? ((a.add 0).add 0) = some (sv h i o) ∧ ∃ (c : Int), b.drew.drew.cell? ((a.add 1).add 0) = some (iv c) ∧ (idx c i h fun p => ∃ (j : Int), b.drew.drew.cell? ((p.add ((c.toNat) * 1)).add 0) = some (.int .u8 j) ∧ ∃ (k : Int), b.drew.drew.drew.cell? ((a.add 1).add 0) = some (iv k) ∧ qag (a.add 1) [(iv (wrap .i64 (k + 1)))] 0 b.drew.drew.drew fun q => K (iv (qbU .i64 (wrap .i64 ((qbU .i64 (qcZ .i64 (Int.fdiv d (2 ^ (min ((33 : Int).toNat) (IntKind.bits .i64)))) (Int.fdiv e (2 ^ (min ((45 : Int).toNat) (IntKind.bits .i64))))) 255) + (wrap .i64 j))) 255)) q)) (K (iv (qbU .i64 (qcZ .i64 (Int.fdiv d (2 ^ (min ((33 : Int).toNat) (IntKind.bits .i64)))) (Int.fdiv e (2 ^ (min ((45 : Int).toNat) (IntKind.bits .i64))))) 255)) b.drew.drew)))

def qa4.ann : Ann := (.seq .l (.seq .l (.seq .l (.seq (.seq .l (.two (.seq .l .l) .l)) (.seq .l .l)))))

theorem qa4.con {d : D.Cur} {e j : Nat} {f : OA} {r : Int × D.Cur} {w : World} (s : M.qbf d) (m : r = M.qa4 d) (c : Blk w e 71 #[(sv f d.b.length j), (iv d.i), (iv d.h)]) (t : Row el5 w f d.b) (E : d.b.length ≤ j) (u : d.b ≠ [] → ∀ g, InB f g → ¬ (fun k => k = e) g) :
    Cl 42 #[(.pointer (some (bx e)))] w (fun v n => v = (iv r.1) ∧ Blk n e 71 #[(sv f r.2.b.length j), (iv r.2.i), (iv r.2.h)] ∧ r.2.b = d.b ∧ Chg (fun k => k = e) w n) := by
 have H := wp.qa4.math d s
 refine begK mixed Try.f42 ann (vc (bx e)) ?_
 unfold vc
 unfold wp.qa4 at H
 refine ⟨_, (c.a 2), ?_⟩
 refine stB c 2 #[(sv f d.b.length j), (iv d.i), (iv (wrap .i64 ((wrap .i64 (d.h * 6364136223846793005)) + 1442695040888963407)))] (fun F x y => ?_)
 have c := x
 refine ⟨_, (c.a 2), by decide, _, (c.a 2), by decide, ?_⟩
 have c := c.ext (Ext.drew _)
 refine ⟨_, (c.a 1), _, _, _, (c.a 0), ?_⟩
 have c := c.ext (Ext.drew _)
 have l := (((Chg.refl (fun k => k = e) w).chgb y (Or.inr rfl)).then (Ext.drew _)).then (Ext.drew _)
 apply brc H<;>intro h H
 ·refine ⟨_, _, _, (c.a 0), _, (c.a 1), ?_⟩
  obtain ⟨⟨p, q⟩, H⟩ := H
  obtain ⟨z, A, B⟩ := Row.at (t.chgS l u) p q
  refine ⟨p, q, z, A, _, (B 0 _ rfl), ?_⟩
  have c := c.ext (Ext.drew _)
  refine ⟨_, (c.a 1), ?_⟩
  refine qcb c (o := 1) (cs' := #[(sv f d.b.length j), (iv (wrap .i64 (d.i + 1))), (iv (wrap .i64 ((wrap .i64 (d.h * 6364136223846793005)) + 1442695040888963407)))]) rfl rfl (Nat.le_of_ble_eq_true rfl) rfl (fun G c C => ?_)
  have l := (l.then (Ext.drew _)).chgb C (Or.inr rfl)
  cases m.trans H.symm
  exact ⟨rfl, c, rfl, l⟩
 cases m.trans H.symm
 exact ⟨rfl, c, rfl, l⟩
def qa0.vc (b : Addr) (a : Int) (w : World) (K : VK) : Prop :=
  qa5 (decide (a ≤ 0)) (K (iv 0) w) (qa5 (decide (a ≤ 256)) (Cl 42 #[(.pointer (some b))] w fun h i => (∃ (c : Int), h = (iv c) ∧ ((a : Int) ≠ 0 ∧ K (iv (Int.tmod c a)) i))) (Cl 42 #[(.pointer (some b))] w fun j k => (∃ (d : Int), j = (iv d) ∧ Cl 42 #[(.pointer (some b))] k fun l m => (∃ (e : Int), l = (iv e) ∧ Cl 42 #[(.pointer (some b))] m fun n o => (∃ (f : Int), n = (iv f) ∧ Cl 42 #[(.pointer (some b))] o fun p q => (∃ (g : Int), p = (iv g) ∧ ((a : Int) ≠ 0 ∧ K (iv (Int.tmod (wrap .i64 ((wrap .i64 ((wrap .i64 ((wrap .i64 (d * 16777216)) + (wrap .i64 (e * 65536)))) + (wrap .i64 (f * 256)))) + g)) a)) q)))))))

def qa0.ann : Ann := (.seq .l (.seq (.seq .l (.two (.seq .l .l) .l)) (.seq (.seq .l (.two (.seq .l .l) .l)) (.seq .l (.seq .l (.seq .l (.seq .l (.seq .l .l))))))))

theorem qa0.con {f : D.Cur} {m t : Nat} {s : OA} {n : Int} {r : Int × D.Cur} {w : World} (x : M.qaj f n) (u : r = M.qa0 f n) (e : Blk w m 71 #[(sv s f.b.length t), (iv f.i), (iv f.h)]) (o : Row el5 w s f.b) (p : f.b.length ≤ t) (j : f.b ≠ [] → ∀ g, InB s g → ¬ (fun q => q = m) g) :
    Cl 29 #[(.pointer (some (bx m))), (iv n)] w (fun y v => y = (iv r.1) ∧ Blk v m 71 #[(sv s r.2.b.length t), (iv r.2.i), (iv r.2.h)] ∧ r.2.b = f.b ∧ Chg (fun q => q = m) w v) := by
 have H := wp.qa0.math f n x
 have c := Chg.refl (fun q => q = m) w
 refine begK mixed Try.f29 ann (vc (bx m) n) ?_
 unfold vc
 unfold wp.qa0 at H
 apply brc H<;>intro h H
 ·cases u.trans H.symm
  exact ⟨rfl, e, rfl, c⟩
 apply brc H<;>intro h H
 ·obtain ⟨z, H⟩ := H
  obtain ⟨A, B, H⟩ := qap H
  refine (qa4.con z B e (o.chgS c j) p (fun k => (fun g a l => j k g a l))).mono ?_
  rintro _ a3 ⟨rfl, d, C, E⟩
  simp only [bC, wC, C] at d
  have c := c.chg E (fun g a => Or.inr a)
  have e := d
  refine ⟨A.1, rfl, ?_⟩
  obtain ⟨F, H⟩ := H
  refine ⟨F, ?_⟩
  cases u.trans H.symm
  exact ⟨rfl, e, rfl, c⟩
 obtain ⟨G, H⟩ := H
 obtain ⟨I, J, H⟩ := qap H
 refine (qa4.con G J e (o.chgS c j) p (fun k => (fun g a l => j k g a l))).mono ?_
 rintro _ a4 ⟨rfl, d, K, L⟩
 simp only [bC, wC, K] at d
 have c := c.chg L (fun g a => Or.inr a)
 have e := d
 refine ⟨I.1, rfl, ?_⟩
 obtain ⟨N, H⟩ := H
 obtain ⟨O, P, H⟩ := qap H
 refine (qa4.con N P e (o.chgS c j) p (fun k => (fun g a l => j k g a l))).mono ?_
 rintro _ a5 ⟨rfl, d, Q, R⟩
 simp only [bC, wC, Q] at d
 have c := c.chg R (fun g a => Or.inr a)
 have e := d
 refine ⟨O.1, rfl, ?_⟩
 obtain ⟨S, H⟩ := H
 obtain ⟨T, U, H⟩ := qap H
 refine (qa4.con S U e (o.chgS c j) p (fun k => (fun g a l => j k g a l))).mono ?_
 rintro _ a6 ⟨rfl, d, V, W⟩
 simp only [bC, wC, V] at d
 have c := c.chg W (fun g a => Or.inr a)
 have e := d
 refine ⟨T.1, rfl, ?_⟩
 obtain ⟨X, H⟩ := H
 obtain ⟨Y, Z, H⟩ := qap H
 refine (qa4.con X Z e (o.chgS c j) p (fun k => (fun g a l => j k g a l))).mono ?_
 rintro _ a7 ⟨rfl, d, a0, a1⟩
 simp only [bC, wC, a0] at d
 have c := c.chg a1 (fun g a => Or.inr a)
 have e := d
 refine ⟨Y.1, rfl, ?_⟩
 obtain ⟨a2, H⟩ := H
 refine ⟨a2, ?_⟩
 cases u.trans H.symm
 exact ⟨rfl, e, rfl, c⟩
def qad.vc (d : Addr) (w : World) (K : VK) : Prop :=
  newK w (.cells #[(iv 0), (iv 0), (iv 0), (iv 0)] 60) fun b s => Cl 29 #[(.pointer (some d)), (iv 9)] s fun t u => (∃ (m : Int), t = (iv m) ∧ Cl 29 #[(.pointer (some d)), (iv 4)] u fun v x => (∃ (n : Int), v = (iv n) ∧ newK x (.cells #[(iv 0), (iv 0), (iv 0), (iv 0)] 60) fun a y => qag (bx a) [(iv (wrap .i64 (1 + m))), (iv n), (iv 0), (iv 0)] 0 y fun c => ldI c (((bx a).add 0).add 0) fun l => qa5 (l == 1) (Cl 29 #[(.pointer (some d)), (iv 6)] c fun z A => (∃ (o : Int), z = (iv o) ∧ qag ((bx a).add 2) [(iv o)] 0 A fun e => ldI e ((bx a).add 0) fun B => ldI e ((bx a).add 1) fun C => ldI e ((bx a).add 2) fun D => ldI e ((bx a).add 3) fun E => qag (bx b) [(iv B), (iv C), (iv D), (iv E)] 0 e fun f => ldI f ((bx b).add 0) fun F => ldI f ((bx b).add 1) fun G => ldI f ((bx b).add 2) fun H => ldI f ((bx b).add 3) fun I => K (.agg #[(iv F), (iv G), (iv H), (iv I)]) f)) (qa5 (l == 8) (ldI c ((bx a).add 0) fun J => ldI c ((bx a).add 1) fun L => ldI c ((bx a).add 2) fun M => ldI c ((bx a).add 3) fun N => qag (bx b) [(iv J), (iv L), (iv M), (iv N)] 0 c fun g => ldI g ((bx b).add 0) fun O => ldI g ((bx b).add 1) fun P => ldI g ((bx b).add 2) fun Q => ldI g ((bx b).add 3) fun R => K (.agg #[(iv O), (iv P), (iv Q), (iv R)]) g) (qa5 (l == 2) (Cl 29 #[(.pointer (some d)), (iv 4)] c fun S T => (∃ (p : Int), S = (iv p) ∧ qag ((bx a).add 2) [(iv p)] 0 T fun h => ldI h ((bx a).add 0) fun U => ldI h ((bx a).add 1) fun V => ldI h ((bx a).add 2) fun W => ldI h ((bx a).add 3) fun X => qag (bx b) [(iv U), (iv V), (iv W), (iv X)] 0 h fun i => ldI i ((bx b).add 0) fun Y => ldI i ((bx b).add 1) fun Z => ldI i ((bx b).add 2) fun a0 => ldI i ((bx b).add 3) fun a1 => K (.agg #[(iv Y), (iv Z), (iv a0), (iv a1)]) i)) (Cl 29 #[(.pointer (some d)), (iv 4)] c fun a2 a3 => (∃ (q : Int), a2 = (iv q) ∧ qag ((bx a).add 2) [(iv q)] 0 a3 fun a4 => Cl 29 #[(.pointer (some d)), (iv 4)] a4 fun a5 a6 => (∃ (r : Int), a5 = (iv r) ∧ qag ((bx a).add 3) [(iv r)] 0 a6 fun j => ldI j ((bx a).add 0) fun a7 => ldI j ((bx a).add 1) fun a8 => ldI j ((bx a).add 2) fun a9 => ldI j ((bx a).add 3) fun aa => qag (bx b) [(iv a7), (iv a8), (iv a9), (iv aa)] 0 j fun k => ldI k ((bx b).add 0) fun ab => ldI k ((bx b).add 1) fun ac => ldI k ((bx b).add 2) fun ad => ldI k ((bx b).add 3) fun ae => K (.agg #[(iv ab), (iv ac), (iv ad), (iv ae)]) k)))))))

def qad.ann : Ann := (.seq .l (.seq .l (.seq (.seq .l (.one (.seq .l (.two .l (.seq .l (.two .l (.seq .l (.two .l (.seq .l .l))))))))) (.seq .l .l))))

theorem qad.con {p : D.Cur} {y K : Nat} {G : OA} {r : D.Ins × D.Cur} {w : World} (hp : M.qc9 p) (I : r = M.qad p) (d : Blk w y 71 #[(sv G p.b.length K), (iv p.i), (iv p.h)]) (A : Row el5 w G p.b) (B : p.b.length ≤ K) (l : p.b ≠ [] → ∀ g, InB G g → ¬ (fun C => C = y) g) :
    Cl 50 #[(.pointer (some (bx y)))] w (fun v_ w_ => v_ = (.agg (iC r.1)) ∧ Blk w_ y 71 #[(sv G r.2.b.length K), (iv r.2.i), (iv r.2.h)] ∧ r.2.b = p.b ∧ Chg (fun C => C = y) w w_) := by
 have H := wp.qad.math p hp
 have f := Chg.refl (fun C => C = y) w
 refine begK mixed Try.f50 ann (vc (bx y)) ?_
 unfold vc
 unfold wp.qad at H
 refine qbE (fun ap aq z P3 a0 => ?_)
 have q := d.ne z
 have d := d.ext a0
 have z := Nat.le_trans f.size z
 have f := f.then a0
 obtain ⟨a7, H⟩ := H
 obtain ⟨s, a8, H⟩ := qap H
 refine (qa0.con a7 a8 d (A.chgS f l) B (fun m => (fun g j n => l m g j n))).mono ?_
 rintro _ ar ⟨rfl, k, a9, a1⟩
 simp only [bC, wC, a9] at k
 have f := f.chg a1 (fun g j => Or.inr j)
 have d := k
 refine ⟨s.1, rfl, ?_⟩
 obtain ⟨aa, H⟩ := H
 obtain ⟨t, ab, H⟩ := qap H
 refine (qa0.con aa ab d (A.chgS f l) B (fun m => (fun g j n => l m g j n))).mono ?_
 rintro _ au ⟨rfl, k, ac, a2⟩
 simp only [bC, wC, ac] at k
 have c := (P3.chgS a1 ((q).symm)).chgS a2 ((q).symm)
 have f := f.chg a2 (fun g j => Or.inr j)
 have d := k
 refine ⟨t.1, rfl, ?_⟩
 refine qbE (fun av aw u E L => ?_)
 have v := d.ne u
 have F := c.ne u
 have d := d.ext L
 have c := c.ext L
 have e := E
 have u := Nat.le_trans f.size u
 refine stB e 0 #[(iv (wrap .i64 (1 + s.1))), (iv t.1), (iv 0), (iv 0)] (fun ax E N => ?_)
 have x := d.chg N v
 have O := c.chg N F
 have d := x
 have c := O
 have f := (f.then L).chgb N (Or.inl u)
 have e := E
 refine ⟨_, (e.a 0), ?_⟩
 apply brc H<;>intro h H
 ·obtain ⟨ad, H⟩ := H
  obtain ⟨P, ae, H⟩ := qap H
  refine (qa0.con ad ae d (A.chgS f l) B (fun m => (fun g j n => l m g j n))).mono ?_
  rintro _ ay ⟨rfl, k, af, Q⟩
  simp only [bC, wC, af] at k
  have e := e.chgS Q ((v).symm)
  have d := k
  refine ⟨P.1, rfl, ?_⟩
  refine qcb e (o := 2) (cs' := #[(iv (wrap .i64 (1 + s.1))), (iv t.1), (iv P.1), (iv 0)]) rfl rfl (Nat.le_of_ble_eq_true rfl) rfl (fun az e R => ?_)
  have x := d.chg R v
  have c := (c.chgS Q ((q).symm)).chg R F
  refine ⟨_, (e.a 0), _, (e.a 1), _, (e.a 2), _, (e.a 3), ?_⟩
  refine qcb c (o := 0) (cs' := #[(iv (wrap .i64 (1 + s.1))), (iv t.1), (iv P.1), (iv 0)]) rfl rfl (Nat.le_of_ble_eq_true rfl) rfl (fun aA c a3 => ?_)
  have d := x.chg a3 q
  have f := ((f.chg Q (fun g j => Or.inr j)).chgb R (Or.inl u)).chgb a3 (Or.inl z)
  refine ⟨_, (c.a 0), _, (c.a 1), _, (c.a 2), _, (c.a 3), ?_⟩
  cases I.trans H.symm
  exact ⟨rfl, d, rfl, f⟩
 apply brc H<;>intro h H
 ·refine ⟨_, (e.a 0), _, (e.a 1), _, (e.a 2), _, (e.a 3), ?_⟩
  refine qcb c (o := 0) (cs' := #[(iv (wrap .i64 (1 + s.1))), (iv t.1), (iv 0), (iv 0)]) rfl rfl (Nat.le_of_ble_eq_true rfl) rfl (fun aB c a4 => ?_)
  have d := d.chg a4 q
  have f := f.chgb a4 (Or.inl z)
  refine ⟨_, (c.a 0), _, (c.a 1), _, (c.a 2), _, (c.a 3), ?_⟩
  cases I.trans H.symm
  exact ⟨rfl, d, rfl, f⟩
 apply brc H<;>intro h H
 ·obtain ⟨ag, H⟩ := H
  obtain ⟨S, ah, H⟩ := qap H
  refine (qa0.con ag ah d (A.chgS f l) B (fun m => (fun g j n => l m g j n))).mono ?_
  rintro _ aC ⟨rfl, k, ai, T⟩
  simp only [bC, wC, ai] at k
  have e := e.chgS T ((v).symm)
  have d := k
  refine ⟨S.1, rfl, ?_⟩
  refine qcb e (o := 2) (cs' := #[(iv (wrap .i64 (1 + s.1))), (iv t.1), (iv S.1), (iv 0)]) rfl rfl (Nat.le_of_ble_eq_true rfl) rfl (fun aD e U => ?_)
  have x := d.chg U v
  have c := (c.chgS T ((q).symm)).chg U F
  refine ⟨_, (e.a 0), _, (e.a 1), _, (e.a 2), _, (e.a 3), ?_⟩
  refine qcb c (o := 0) (cs' := #[(iv (wrap .i64 (1 + s.1))), (iv t.1), (iv S.1), (iv 0)]) rfl rfl (Nat.le_of_ble_eq_true rfl) rfl (fun aE c a5 => ?_)
  have d := x.chg a5 q
  have f := ((f.chg T (fun g j => Or.inr j)).chgb U (Or.inl u)).chgb a5 (Or.inl z)
  refine ⟨_, (c.a 0), _, (c.a 1), _, (c.a 2), _, (c.a 3), ?_⟩
  cases I.trans H.symm
  exact ⟨rfl, d, rfl, f⟩
 obtain ⟨aj, H⟩ := H
 obtain ⟨J, ak, H⟩ := qap H
 refine (qa0.con aj ak d (A.chgS f l) B (fun m => (fun g j n => l m g j n))).mono ?_
 rintro _ w64 ⟨rfl, k, al, V⟩
 simp only [bC, wC, al] at k
 have c := c.chgS V ((q).symm)
 have e := e.chgS V ((v).symm)
 have d := k
 refine ⟨J.1, rfl, ?_⟩
 refine stB e 2 #[(iv (wrap .i64 (1 + s.1))), (iv t.1), (iv J.1), (iv 0)] (fun aF E W => ?_)
 have x := d.chg W v
 have O := c.chg W F
 have d := x
 have f := (f.chg V (fun g j => Or.inr j)).chgb W (Or.inl u)
 obtain ⟨am, H⟩ := H
 obtain ⟨X, an, H⟩ := qap H
 refine (qa0.con am an d (A.chgS f l) B (fun m => (fun g j n => l m g j n))).mono ?_
 rintro _ aG ⟨rfl, k, ao, Y⟩
 simp only [bC, wC, ao] at k
 have e := E.chgS Y ((v).symm)
 have d := k
 refine ⟨X.1, rfl, ?_⟩
 refine qcb e (o := 3) (cs' := #[(iv (wrap .i64 (1 + s.1))), (iv t.1), (iv J.1), (iv X.1)]) rfl rfl (Nat.le_of_ble_eq_true rfl) rfl (fun aH e Z => ?_)
 have x := d.chg Z v
 have c := (O.chgS Y ((q).symm)).chg Z F
 refine ⟨_, (e.a 0), _, (e.a 1), _, (e.a 2), _, (e.a 3), ?_⟩
 refine qcb c (o := 0) (cs' := #[(iv (wrap .i64 (1 + s.1))), (iv t.1), (iv J.1), (iv X.1)]) rfl rfl (Nat.le_of_ble_eq_true rfl) rfl (fun aI c a6 => ?_)
 have d := x.chg a6 q
 have f := ((f.chg Y (fun g j => Or.inr j)).chgb Z (Or.inl u)).chgb a6 (Or.inl z)
 refine ⟨_, (c.a 0), _, (c.a 1), _, (c.a 2), _, (c.a 3), ?_⟩
 cases I.trans H.symm
 exact ⟨rfl, d, rfl, f⟩
def qal.vc (n : OA) (o p : Nat) (w : World) (K : VK) : Prop :=
  Cl 28 #[(sv n o p)] w fun q r => (∃ (b : Addr), q = (.pointer (some b)) ∧ Run Try.prog (Instr.buildSlice 37 0 #[]) r fun s t => ∃ (c : OA) (d e : Nat), s = .slice c d e ∧ qe9 (σ := (OA × Nat × Nat) × Int × Unit) (fun a f u => qa5 (decide (a.2.1 < 12)) (Cl 29 #[(.pointer (some b)), (iv 10000)] f fun v x => (∃ (g : Int), v = (iv g) ∧ Run Try.prog (Instr.buildSlice 37 1 #[(0, (iv g))]) x fun y z => ∃ (h : OA) (i j : Nat), y = .slice h i j ∧ Run Try.prog (Builtin.append_ #[37, 37] 37 #[(sv a.1.1 a.1.2.1 a.1.2.2), (sv h i j)]) z fun A B => ∃ (k : OA) (l m : Nat), A = .slice k l m ∧ u ((k, l, m), (wrap .i64 (a.2.1 + 1)), ()) B)) (K (sv a.1.1 a.1.2.1 a.1.2.2) f)) ((c, d, e), 0, ()) t)

def qal.ann : Ann := (.seq .l (.seq .l (.seq .l (.seq (.seq .l (.one (.loop [(4, .sl), (5, .int .i64)] (.seq (.seq .l (.two .l .l)) (.seq (.one .l) .l))))) (.seq .l .l)))))

theorem qal.con {d r : List Int} {f : OA} {j : Nat} {w : World} (I : M.qbR d) (J : r = M.qal d) (o : Row el5 w f d) (u : d.length ≤ j) :
    Cl 17 #[(sv f d.length j)] w (fun K e => ∃ (v : OA) (x : Nat), K = (sv v r.length x) ∧ Own el3 e w.heap.size v x r ∧ Ext w e) := by
 have H := wp.qal.math d I
 have a := Ext.refl w
 refine begK mixed Try.f17 ann (vc f d.length j) ?_
 unfold vc
 unfold wp.qal at H
 obtain ⟨L, H⟩ := H
 obtain ⟨y, N, H⟩ := qap H
 refine (qaf.con L N (o.ext a) u).mono ?_
 rintro _ aa ⟨z, rfl, b, O, k, P⟩
 simp only [bC, wC, O] at b
 have k := Nat.le_trans a.size k
 have a := qam a P
 refine ⟨(bx z), rfl, ?_⟩
 refine qbo el3 ([] : List Int) (fun _ => by kernel_rfl) rfl (fun Q ab R A => ?_)
 have b := b.ext A
 have S := R.mono a.size
 have a := qam a A
 obtain ⟨T, ⟨U, V⟩, B⟩ := H
 refine ⟨fun W X e => ∃ (l : List Int) (p q s : Int) (m : OA) (n : Nat), X = ((m, l.length, n), p, ()) ∧ T W (l, p, q, s, ()) ∧ Ext w e ∧ Own el3 e w.heap.size m n l ∧ Blk e z 71 #[(sv f d.length j), (iv q), (iv s)], ⟨U, ([] : List Int), 0, y.i, y.h, Q, 0, rfl, V, a, S, b⟩, ?_⟩
 rintro Y _ ac ⟨l, p, q, s, m, n, rfl, C, a, c, b⟩
 have H := B Y _ C
 clear B C
 try dsimp only at H ⊢
 apply brc H<;>intro h H
 ·obtain ⟨Z, H⟩ := H
  obtain ⟨D, a0, H⟩ := qap H
  refine (qa0.con Z a0 b (o.ext a) u (fun a1 => (fun g h_ a2 => Nat.not_le.2 (o.old a1 g h_) (qdE k _ a2)))).mono ?_
  rintro _ ad ⟨rfl, E, a3, F⟩
  simp only [bC, wC, a3] at E
  have c := c.chgS F (qcv (c.qas b (by decide)))
  have a := Chg.ext a F (qdE k)
  refine ⟨D.1, rfl, ?_⟩
  refine qbo el3 ([D.1] : List Int) (fun _ => by kernel_rfl) rfl (fun ae af P7 t => ?_)
  have b := E.ext t
  have c := c.ext t
  have O7 := P7.mono a.size
  have a := qam a t
  obtain ⟨a4, H⟩ := H
  refine appO qgf c O7.row a.size a4 (fun a5 a6 ag P6 G => ?_)
  have b := b.app G (c.qas b (by decide))
  have a := eapp a G c
  have c := P6
  obtain ⟨a7, a8, a9⟩ := H
  exact ⟨a7, a8, _, _, _, _, a5, a6, rfl, a9, a, c, b⟩
 cases J.trans H.symm
 exact ⟨m, n, rfl, c, a⟩
def qbP.vc (b : OA) (a c : Nat) (w : World) (K : VK) : Prop :=
  K (.bool (decide (((a : Nat) : Int) > 1048576))) w

def qbP.ann : Ann := (.seq .l (.seq .l .l))

theorem qbP.con {a : List Int} {b : OA} {c : Nat} {r : Bool} {w : World} (d : r = M.qbP a) (h : Row el5 w b a) (i : a.length ≤ c) :
    Cl 15 #[(sv b a.length c)] w (fun e f => e = (.bool r) ∧ Ext w f) := by
 have H := wp.qbP.math a
 have g := Ext.refl w
 refine begK mixed Try.f15 ann (vc b a.length c) ?_
 unfold vc
 unfold wp.qbP at H
 cases d.trans H.symm
 exact ⟨rfl, g⟩
def qa9.vc (a : OA) (h i : Nat) (w : World) (K : VK) : Prop :=
  qa5 (Option.isNone a) (K (sv none 0 0) w) (Run Try.prog (Instr.buildSlice 35 0 #[]) w fun j k => ∃ (b : OA) (c d : Nat), j = .slice b c d ∧ Run Try.prog (Builtin.append_ #[35, 35] 35 #[(sv b c d), (sv a h i)]) k fun l m => ∃ (e : OA) (f g : Nat), l = .slice e f g ∧ K (sv e f g) m)

def qa9.ann : Ann := (.seq .l (.seq (.seq .l (.two (.seq .l .l) .l)) (.seq .l .l)))

theorem qa9.con {b r : List D.Ins} {c : OA} {e : Nat} {w : World} (n : M.qb4 b) (g : r = M.qa9 b) (i : Row el60 w c b) (z : b.length ≤ e) :
    Cl 30 #[(sv c b.length e)] w (fun o j => ∃ (k : OA) (l : Nat), o = (sv k r.length l) ∧ Own el60 j w.heap.size k l r ∧ Ext w j) := by
 have H := wp.qa9.math b n
 have a := Ext.refl w
 refine begK mixed Try.f30 ann (vc c b.length e) ?_
 unfold vc
 unfold wp.qa9 at H
 obtain ⟨p, m⟩ : ∃ q, q = Option.isNone c := ⟨_, rfl⟩
 have H := H p (fun s => Row.isNone (i.ext a) (m.symm.trans s))
 rw [← m]
 apply brc H<;>intro h H
 ·cases g.trans H.symm
  exact ⟨none, 0, rfl, Own.nil, a⟩
 refine qbo el60 ([] : List D.Ins) (fun _ => by kernel_rfl) rfl (fun A B f t => ?_)
 have d := f.mono a.size
 have a := qam a t
 obtain ⟨u, H⟩ := H
 refine appO qda d (i.ext a) a.size u (fun v x C f y => ?_)
 have a := eapp a y d
 have d := f
 cases g.trans H.symm
 exact ⟨v, x, rfl, d, a⟩
def qaR.vc (a : Int) (w : World) (K : VK) : Prop :=
  qa5 (a == 10) (K (.bool true) w) (K (.bool (a == 11)) w)

def qaR.ann : Ann := (.seq .l (.seq .l .l))

theorem qaR.con {a : Int} {r : Bool} {w : World} (b : r = M.qaR a)  :
    Cl 33 #[(iv a)] w (fun d e => d = (.bool r) ∧ Ext w e) := by
 have H := wp.qaR.math a
 have c := Ext.refl w
 refine begK mixed Try.f33 ann (vc a) ?_
 unfold vc
 unfold wp.qaR at H
 apply brc H<;>intro h H
 ·cases b.trans H.symm
  exact ⟨rfl, c⟩
 cases b.trans H.symm
 exact ⟨rfl, c⟩
def qaI.vc (b : Addr) (c : Int) (w : World) (K : VK) : Prop :=
  Cl 29 #[(.pointer (some b)), (iv c)] w fun d e => (∃ (a : Int), d = (iv a) ∧ K (.bool (a == 0)) e)

def qaI.ann : Ann := (.seq .l (.seq .l .l))

theorem qaI.con {a : D.Cur} {c k : Nat} {f : OA} {d : Int} {r : Bool × D.Cur} {w : World} (q : M.qbu a d) (s : r = M.qaI a d) (l : Blk w c 71 #[(sv f a.b.length k), (iv a.i), (iv a.h)]) (t : Row el5 w f a.b) (u : a.b.length ≤ k) (n : a.b ≠ [] → ∀ g, InB f g → ¬ (fun e => e = c) g) :
    Cl 40 #[(.pointer (some (bx c))), (iv d)] w (fun v o => v = (.bool r.1) ∧ Blk o c 71 #[(sv f r.2.b.length k), (iv r.2.i), (iv r.2.h)] ∧ r.2.b = a.b ∧ Chg (fun e => e = c) w o) := by
 have H := wp.qaI.math a d q
 have j := Chg.refl (fun e => e = c) w
 refine begK mixed Try.f40 ann (vc (bx c) d) ?_
 unfold vc
 unfold wp.qaI at H
 obtain ⟨x, H⟩ := H
 obtain ⟨y, z, H⟩ := qap H
 refine (qa0.con x z l (t.chgS j n) u (fun A => (fun g m B => n A g m B))).mono ?_
 rintro _ F ⟨rfl, p, C, E⟩
 simp only [bC, wC, C] at p
 have j := j.chg E (fun g m => Or.inr m)
 have l := p
 refine ⟨y.1, rfl, ?_⟩
 cases s.trans H.symm
 exact ⟨rfl, l, rfl, j⟩
def qae.vc (b : Addr) (A1 : OA) (n1 c1 : Nat) (g : Int) (w : World) (K : VK) : Prop :=
  Cl 29 #[(.pointer (some b)), (iv 4)] w fun ad ae => (∃ (r : Int), ad = (iv r) ∧ qe9 (σ := (OA × Nat × Nat) × Int × Unit) (fun a l c => qa5 (decide (a.2.1 > 0)) (qa5 (decide (((a.1.2.1 : Nat) : Int) < 20)) (Cl 29 #[(.pointer (some b)), (iv 5)] l fun af e => (∃ (m : Int), af = (iv m) ∧ qa5 (m == 0) (qa5 (g == 0) (c ((a.1.1, a.1.2.1, a.1.2.2), (wrap .i64 (a.2.1 - 1)), ()) e) (Cl 29 #[(.pointer (some b)), (iv 4)] e fun ag ah => (∃ (s : Int), ag = (iv s) ∧ Run Try.prog (Instr.buildSlice 35 1 #[(0, (.agg #[(iv 10), (iv s), (iv 0), (iv 0)]))]) ah fun ai aj => ∃ (t : OA) (u v : Nat), ai = .slice t u v ∧ Run Try.prog (Builtin.append_ #[35, 35] 35 #[(sv a.1.1 a.1.2.1 a.1.2.2), (sv t u v)]) aj fun ak al => ∃ (x : OA) (y z : Nat), ak = .slice x y z ∧ Cl 41 #[(.pointer (some b)), (sv x y z), (iv (wrap .i64 (g - 1)))] al fun am an => (∃ (h : OA) (d n : Nat), am = (sv h d n) ∧ Cl 40 #[(.pointer (some b)), (iv 2)] an fun ao A => (∃ (B : Bool), ao = (.bool B) ∧ qa5 B ((idx ((a.1.2.1 : Nat) : Int) d h fun ap => qag ((ap.add ((((a.1.2.1 : Nat) : Int).toNat) * 4)).add 2) [(iv ((d : Nat) : Int))] 0 A fun aq => c ((h, d, n), (wrap .i64 (a.2.1 - 1)), ()) aq)) (Run Try.prog (Instr.buildSlice 35 1 #[(0, (.agg #[(iv 11), (iv 0), (iv 0), (iv 0)]))]) A fun ar au => ∃ (C : OA) (D E : Nat), ar = .slice C D E ∧ Run Try.prog (Builtin.append_ #[35, 35] 35 #[(sv h d n), (sv C D E)]) au fun av aw => ∃ (o : OA) (i F : Nat), av = .slice o i F ∧ (idx ((a.1.2.1 : Nat) : Int) i o fun ax => qag ((ax.add ((((a.1.2.1 : Nat) : Int).toNat) * 4)).add 2) [(iv ((i : Nat) : Int))] 0 aw fun ay => Cl 41 #[(.pointer (some b)), (sv o i F), (iv (wrap .i64 (g - 1)))] ay fun az aA => (∃ (p : OA) (j G : Nat), az = (sv p j G) ∧ (idx ((d : Nat) : Int) j p fun aB => qag ((aB.add ((((d : Nat) : Int).toNat) * 4)).add 2) [(iv ((j : Nat) : Int))] 0 aA fun aC => c ((p, j, G), (wrap .i64 (a.2.1 - 1)), ()) aC))))))))) (qa5 (m == 1) (qa5 (g == 0) (c ((a.1.1, a.1.2.1, a.1.2.2), (wrap .i64 (a.2.1 - 1)), ()) e) (qa5 (decide (((a.1.2.1 : Nat) : Int) > 14)) (c ((a.1.1, a.1.2.1, a.1.2.2), (wrap .i64 (a.2.1 - 1)), ()) e) (Run Try.prog (Instr.buildSlice 35 1 #[(0, (.agg #[(iv 8), (iv 3), (iv 0), (iv 0)]))]) e fun aD aE => ∃ (H : OA) (I J : Nat), aD = .slice H I J ∧ Run Try.prog (Builtin.append_ #[35, 35] 35 #[(sv a.1.1 a.1.2.1 a.1.2.2), (sv H I J)]) aE fun aF aG => ∃ (L : OA) (f M : Nat), aF = .slice L f M ∧ Run Try.prog (Instr.buildSlice 35 1 #[(0, (.agg #[(iv 10), (iv 3), (iv 0), (iv 0)]))]) aG fun aH aI => ∃ (N : OA) (O P : Nat), aH = .slice N O P ∧ Run Try.prog (Builtin.append_ #[35, 35] 35 #[(sv L f M), (sv N O P)]) aI fun aJ aK => ∃ (Q : OA) (R S : Nat), aJ = .slice Q R S ∧ Run Try.prog (Instr.buildSlice 35 3 #[(0, (.agg #[(iv 3), (iv 0), (iv 0), (iv 1)])), (1, (.agg #[(iv 1), (iv 2), (iv 1), (iv 0)])), (2, (.agg #[(iv 4), (iv 3), (iv 3), (iv 2)]))]) aK fun aL aM => ∃ (T : OA) (U V : Nat), aL = .slice T U V ∧ Run Try.prog (Builtin.append_ #[35, 35] 35 #[(sv Q R S), (sv T U V)]) aM fun aN aO => ∃ (W : OA) (X Y : Nat), aN = .slice W X Y ∧ Run Try.prog (Instr.buildSlice 35 1 #[(0, (.agg #[(iv 11), (iv 0), (iv ((f : Nat) : Int)), (iv 0)]))]) aO fun aP aQ => ∃ (Z : OA) (a0 a1 : Nat), aP = .slice Z a0 a1 ∧ Run Try.prog (Builtin.append_ #[35, 35] 35 #[(sv W X Y), (sv Z a0 a1)]) aQ fun aR aS => ∃ (q : OA) (k a2 : Nat), aR = .slice q k a2 ∧ (idx ((f : Nat) : Int) k q fun aT => qag ((aT.add ((((f : Nat) : Int).toNat) * 4)).add 2) [(iv ((k : Nat) : Int))] 0 aS fun aU => c ((q, k, a2), (wrap .i64 (a.2.1 - 1)), ()) aU)))) (Cl 50 #[(.pointer (some b))] e fun aV aW => (∃ (a3 : Int), True ∧ ∃ (a4 : Int), True ∧ ∃ (a5 : Int), True ∧ ∃ (a6 : Int), True ∧ aV = (.agg #[(iv a3), (iv a4), (iv a5), (iv a6)]) ∧ Run Try.prog (Instr.buildSlice 35 1 #[(0, (.agg #[(iv a3), (iv a4), (iv a5), (iv a6)]))]) aW fun aX aY => ∃ (a7 : OA) (a8 a9 : Nat), aX = .slice a7 a8 a9 ∧ Run Try.prog (Builtin.append_ #[35, 35] 35 #[(sv a.1.1 a.1.2.1 a.1.2.2), (sv a7 a8 a9)]) aY fun aZ b0 => ∃ (aa : OA) (ab ac : Nat), aZ = .slice aa ab ac ∧ c ((aa, ab, ac), (wrap .i64 (a.2.1 - 1)), ()) b0))))) (K (sv a.1.1 a.1.2.1 a.1.2.2) l)) (K (sv a.1.1 a.1.2.1 a.1.2.2) l)) ((A1, n1, c1), r, ()) ae)

def qae.ann : Ann := (.seq .l (.seq (.seq .l (.one (.loop [(1, .sl), (7, .int .i64)] (.seq (.seq .l (.two .l .l)) (.seq (.one (.seq .l (.one (.seq .l (.two (.seq (.seq .l (.two .l .l)) (.seq .l (.seq .l (.seq .l (.seq .l (.seq (.seq .l (.two (.seq .l .l) .l)) (.seq .l (.seq .l (.seq .l (.seq .l .l)))))))))) (.seq .l (.two (.seq (.seq .l (.two .l .l)) (.seq .l (.seq .l (.seq .l (.seq .l (.seq .l .l)))))) .l))))))) .l))))) (.seq .l .l)))

theorem qae.con_ (n_ : Nat) : ∀ {u : D.Cur} {F : Nat} {W : OA} {a5 : Nat} {N : List D.Ins} {x : OA} {c1 : Nat} {R : Int} {r : (List D.Ins) × D.Cur} {w : World} (hp : M.qbg u N R) (hr : r = M.qae u N R) (c : Blk w F 71 #[(sv W u.b.length a5), (iv u.i), (iv u.h)]) (G : Row el5 w W u.b) (O : u.b.length ≤ a5) (O3 : Own el60 w 0 x c1 N) (n : u.b ≠ [] → ∀ g, InB W g → ¬ (fun y => y = F ∨ InB x y) g), (R).toNat = n_ →
    Cl 41 #[(.pointer (some (bx F))), (sv x N.length c1), (iv R)] w (fun v_ S => ∃ (ag : OA) (aI : Nat), v_ = (sv ag r.1.length aI) ∧ Own el60 S 0 ag aI r.1 ∧ Mov w x ag ∧ Blk S F 71 #[(sv W r.2.b.length a5), (iv r.2.i), (iv r.2.h)] ∧ r.2.b = u.b ∧ Chg (fun y => y = F ∨ InB x y) w S) := by
  induction n_ using Nat.strongRecOn with
  | ind n_ aJ =>
  intro u F W a5 N x c1 R r w hp hr c G O O3 n aK
  have H := wp.qae.math u N R hp
  have d := Chg.refl (fun y => y = F ∨ InB x y) w
  refine qgU mixed (fn := Try.f41) (by kernel_rfl) (by kernel_rfl) (an := qae.ann) (V := qae.vc (bx F) x N.length c1 R) (by kernel_rfl) ?_
  unfold qae.vc
  unfold wp.qae at H
  obtain ⟨b9, H⟩ := H
  obtain ⟨a6, ba, H⟩ := qap H
  refine (qa0.con b9 ba c (G.chgS d n) O (fun o => (fun g a j => n o g a (Or.inl j)))).mono ?_
  rintro _ cx ⟨rfl, l, bb, aL⟩
  simp only [bC, wC, bb] at l
  have O3 := O3.chgS aL (qcv (O3.qas c (by decide)))
  have d := d.chg aL (fun g a => Or.inr (Or.inl a))
  have c := l
  refine ⟨a6.1, rfl, ?_⟩
  obtain ⟨bc, ⟨bd, be⟩, aM⟩ := H
  refine ⟨fun m_ z_ S => ∃ (f : List D.Ins) (I ah ai : Int) (J : OA) (P : Nat), z_ = ((J, f.length, P), I, ()) ∧ bc m_ (f, I, ah, ai, ()) ∧ Chg (fun y => y = F ∨ InB x y) w S ∧ Own el60 S 0 J P f ∧ Mov w x J ∧ Blk S F 71 #[(sv W u.b.length a5), (iv ah), (iv ai)], ⟨bd, N, a6.1, a6.2.i, a6.2.h, x, c1, rfl, be, d, O3, (Mov.same _ _), c⟩, ?_⟩
  rintro bf _ cy ⟨f, I, ah, ai, J, P, rfl, aN, d, e, z, c⟩
  have H := aM bf _ aN
  clear aM aN
  try dsimp only at H ⊢
  refine brc H (fun bg H => ?_) (fun bg H => ?_)
  ·refine brc H (fun bh H => ?_) (fun bh H => ?_)
   ·obtain ⟨bi, H⟩ := H
    obtain ⟨K, bj, H⟩ := qap H
    refine (qa0.con bi bj c (G.chgS d n) O (fun o => (fun g a j => n o g a (Or.inl j)))).mono ?_
    rintro _ cz ⟨rfl, l, bk, aO⟩
    simp only [bC, wC, bk] at l
    have e := e.chgS aO (qcv (e.qas c (by decide)))
    have d := d.chg aO (fun g a => Or.inr (Or.inl a))
    have c := l
    refine ⟨K.1, rfl, ?_⟩
    refine brc H (fun bl H => ?_) (fun bl H => ?_)
    ·refine brc H (fun bm H => ?_) (fun bm H => ?_)
     ·obtain ⟨bn, bo, bp⟩ := H
      exact ⟨bn, bo, f, (wrap .i64 (I - 1)), K.2.i, K.2.h, J, P, rfl, bp, d, e, z, c⟩
     obtain ⟨bq, H⟩ := H
     obtain ⟨aP, br, H⟩ := qap H
     refine (qa0.con bq br c (G.chgS d n) O (fun o => (fun g a j => n o g a (Or.inl j)))).mono ?_
     rintro _ cA ⟨rfl, l, bs, aQ⟩
     simp only [bC, wC, bs] at l
     have e := e.chgS aQ (qcv (e.qas c (by decide)))
     have d := d.chg aQ (fun g a => Or.inr (Or.inl a))
     have c := l
     refine ⟨aP.1, rfl, ?_⟩
     refine qbo el60 ([(⟨10, aP.1, 0, 0⟩ : D.Ins)] : List D.Ins) (fun _ => by kernel_rfl) rfl (fun cB cC P6 aj => ?_)
     have cD := P6.qbk c.lt
     have aR := Own.qbS e P6 (Nat.le_refl _)
     have c := c.ext aj
     have e := e.ext aj
     have O6 := P6.mono d.size
     have d := d.then aj
     obtain ⟨bt, H⟩ := H
     refine qcX qda qda.under e O6.row (Nat.zero_le _) rfl (by first | rfl | omega | (simp; done) | (simp; omega)) bt (fun cE cF cG q X => ?_)
     have E := Apart.app (e.qas c (by decide)) X c.lt
     have c := c.app X (e.qas c (by decide))
     have bu := qc0.app (aR).symm X O6
     have O6 := O6.app X (aR).symm
     have v := E
     have cH := bu
     have s := d.size
     have d := d.app X (fun g a => (qdc z a (fun a => (Or.inr a))))
     have e := q
     have p := Mov.trans z X.blk s
     obtain ⟨bv, H⟩ := H
     obtain ⟨k, bw, H⟩ := qap H
     refine (aJ _ (by rw [← aK]; exact qae.dec hp (by assumption)) bv bw c (G.chgS d n) O (e.mono (Nat.zero_le _)) (fun o => (fun g a => (fun j => j.elim ((fun g a j => n o g a (Or.inl j)) g a) ((fun g a j => (qdc p j (fun a => (Or.inr a))).elim (fun ak => Nat.not_le.2 (G.old o g a) ak) (n o g a)) g a)))) rfl).mono ?_
     rintro _ cI ⟨aS, aT, rfl, T, bz, l, bA, bB⟩
     simp only [bC, wC, bA] at l
     have L := Mov.trans p bz d.size
     have d := d.chg bB (fun g => (fun j => j.elim ((fun g a => Or.inr (Or.inl a)) g) ((fun g a => (qdc p a (fun a => (Or.inr a)))) g)))
     have c := l
     have m := T
     refine ⟨aS, k.1.length, aT, rfl, ?_⟩
     obtain ⟨bD, H⟩ := H
     obtain ⟨al, bE, H⟩ := qap H
     refine (qaI.con bD bE c (G.chgS d n) O (fun o => (fun g a j => n o g a (Or.inl j)))).mono ?_
     rintro _ cJ ⟨rfl, l, bF, aU⟩
     simp only [bC, wC, bF] at l
     have m := m.chgS aU (qcv (m.qas c (by decide)))
     have d := d.chg aU (fun g a => Or.inr (Or.inl a))
     have c := l
     refine ⟨al.1, rfl, ?_⟩
     refine brc H (fun bG H => ?_) (fun bG H => ?_)
     ·obtain ⟨⟨am, ao⟩, H⟩ := H
      obtain ⟨bH, a7, cK⟩ := Row.at m.row am ao
      refine ⟨am, ao, bH, a7, ?_⟩
      refine Own.storeAt m a7 am ao 2 [(iv (k.1.length : Int))] (⟨(rd k.1 (f.length : Int)).Op, (rd k.1 (f.length : Int)).A, (k.1.length : Int), (rd k.1 (f.length : Int)).C⟩ : D.Ins) rfl (Nat.le_of_ble_eq_true rfl) rfl (fun cL T aV cM => ?_)
      have U := c.chg aV (fun a => ((m.qas c (by decide))) _ a7 a.symm)
      have c := U
      have d := d.chgb aV (qdc L ⟨_, a7, rfl⟩ (fun a => (Or.inr a)))
      have m := T
      obtain ⟨bI, bJ, bK⟩ := H
      exact ⟨bI, bJ, (List.set k.1 ((f.length : Int).toNat) (⟨(rd k.1 (f.length : Int)).Op, (rd k.1 (f.length : Int)).A, (k.1.length : Int), (rd k.1 (f.length : Int)).C⟩ : D.Ins)), (wrap .i64 (I - 1)), al.2.i, al.2.h, aS, aT, (by first | rfl | (simp only [bC, wC, List.length_set])), bK, d, (by first | exact m | (simp only [bC, wC, List.length_set]; exact m)), L, (by first | exact c | (simp only [bC, wC, List.length_set]; exact c))⟩
     refine qbo el60 ([(⟨11, 0, 0, 0⟩ : D.Ins)] : List D.Ins) (fun _ => by kernel_rfl) rfl (fun cN cO P8 ap => ?_)
     have cP := P8.qbk c.lt
     have aW := Own.qbS m P8 (Nat.le_refl _)
     have c := c.ext ap
     have m := m.ext ap
     have O8 := P8.mono d.size
     have d := d.then ap
     obtain ⟨bL, H⟩ := H
     refine qcX qda qda.under m O8.row (Nat.zero_le _) rfl (by first | rfl | omega | (simp; done) | (simp; omega)) bL (fun cQ cR cS T Y => ?_)
     have bM := Apart.app (m.qas c (by decide)) Y c.lt
     have c := c.app Y (m.qas c (by decide))
     have bN := qc0.app (aW).symm Y O8
     have O8 := O8.app Y (aW).symm
     have bO := bM
     have cT := bN
     have s := d.size
     have d := d.app Y (fun g a => (qdc L a (fun a => (Or.inr a))))
     have m := T
     have L := Mov.trans L Y.blk s
     obtain ⟨⟨aq, ar⟩, H⟩ := H
     obtain ⟨bP, a8, cU⟩ := Row.at m.row aq ar
     refine ⟨aq, ar, bP, a8, ?_⟩
     refine Own.storeAt m a8 aq ar 2 [(iv (((k.1 ++ ([(⟨11, 0, 0, 0⟩ : D.Ins)] : List D.Ins))).length : Int))] (⟨(rd (k.1 ++ ([(⟨11, 0, 0, 0⟩ : D.Ins)] : List D.Ins)) (f.length : Int)).Op, (rd (k.1 ++ ([(⟨11, 0, 0, 0⟩ : D.Ins)] : List D.Ins)) (f.length : Int)).A, (((k.1 ++ ([(⟨11, 0, 0, 0⟩ : D.Ins)] : List D.Ins))).length : Int), (rd (k.1 ++ ([(⟨11, 0, 0, 0⟩ : D.Ins)] : List D.Ins)) (f.length : Int)).C⟩ : D.Ins) rfl (Nat.le_of_ble_eq_true rfl) rfl (fun cV T aX cW => ?_)
     have U := c.chg aX (fun a => (bO) _ a8 a.symm)
     have c := U
     have d := d.chgb aX (qdc L ⟨_, a8, rfl⟩ (fun a => (Or.inr a)))
     have m := T
     obtain ⟨bQ, H⟩ := H
     obtain ⟨t, bR, H⟩ := qap H
     refine (qfN (by first | (simp only [bC, wC, List.length_set]; done) | (simp; done)) (aJ _ (by rw [← aK]; exact qae.dec hp (by assumption)) bQ bR c (G.chgS d n) O (m.mono (Nat.zero_le _)) (fun o => (fun g a => (fun j => j.elim ((fun g a j => n o g a (Or.inl j)) g a) ((fun g a j => (qdc L j (fun a => (Or.inr a))).elim (fun ak => Nat.not_le.2 (G.old o g a) ak) (n o g a)) g a)))) rfl)).mono ?_
     rintro _ cX ⟨aY, aZ, rfl, P9, bS, l, bT, bU⟩
     simp only [bC, wC, bT] at l
     have b0 := Mov.trans L bS d.size
     have d := d.chg bU (fun g => (fun j => j.elim ((fun g a => Or.inr (Or.inl a)) g) ((fun g a => (qdc L a (fun a => (Or.inr a)))) g)))
     have c := l
     have Z := P9
     refine ⟨aY, t.1.length, aZ, rfl, ?_⟩
     obtain ⟨⟨au, av⟩, H⟩ := H
     obtain ⟨bV, a9, cY⟩ := Row.at Z.row au av
     refine ⟨au, av, bV, a9, ?_⟩
     refine Own.storeAt Z a9 au av 2 [(iv (t.1.length : Int))] (⟨(rd t.1 (k.1.length : Int)).Op, (rd t.1 (k.1.length : Int)).A, (t.1.length : Int), (rd t.1 (k.1.length : Int)).C⟩ : D.Ins) rfl (Nat.le_of_ble_eq_true rfl) rfl (fun cZ P9 b1 d0 => ?_)
     have U := c.chg b1 (fun a => ((Z.qas c (by decide))) _ a9 a.symm)
     have c := U
     have d := d.chgb b1 (qdc b0 ⟨_, a9, rfl⟩ (fun a => (Or.inr a)))
     have Z := P9
     obtain ⟨bW, bX, bY⟩ := H
     exact ⟨bW, bX, (List.set t.1 ((k.1.length : Int).toNat) (⟨(rd t.1 (k.1.length : Int)).Op, (rd t.1 (k.1.length : Int)).A, (t.1.length : Int), (rd t.1 (k.1.length : Int)).C⟩ : D.Ins)), (wrap .i64 (I - 1)), t.2.i, t.2.h, aY, aZ, (by first | rfl | (simp only [bC, wC, List.length_set])), bY, d, (by first | exact Z | (simp only [bC, wC, List.length_set]; exact Z)), b0, (by first | exact c | (simp only [bC, wC, List.length_set]; exact c))⟩
    refine brc H (fun bZ H => ?_) (fun bZ H => ?_)
    ·refine brc H (fun c0 H => ?_) (fun c0 H => ?_)
     ·obtain ⟨c2, c3, c4⟩ := H
      exact ⟨c2, c3, f, (wrap .i64 (I - 1)), K.2.i, K.2.h, J, P, rfl, c4, d, e, z, c⟩
     refine brc H (fun c5 H => ?_) (fun c5 H => ?_)
     ·obtain ⟨c6, c7, c8⟩ := H
      exact ⟨c6, c7, f, (wrap .i64 (I - 1)), K.2.i, K.2.h, J, P, rfl, c8, d, e, z, c⟩
     refine qbo el60 ([(⟨8, 3, 0, 0⟩ : D.Ins)] : List D.Ins) (fun _ => by kernel_rfl) rfl (fun d1 d2 aw ax => ?_)
     have d3 := aw.qbk c.lt
     have b2 := Own.qbS e aw (Nat.le_refl _)
     have c := c.ext ax
     have e := e.ext ax
     have aa := aw.mono d.size
     have d := d.then ax
     obtain ⟨c9, H⟩ := H
     refine qcX qda qda.under e aa.row (Nat.zero_le _) rfl (by first | rfl | omega | (simp; done) | (simp; omega)) c9 (fun d4 d5 d6 q a0 => ?_)
     have E := Apart.app (e.qas c (by decide)) a0 c.lt
     have c := c.app a0 (e.qas c (by decide))
     have ca := qc0.app (b2).symm a0 aa
     have aa := aa.app a0 (b2).symm
     have v := E
     have d7 := ca
     have s := d.size
     have d := d.app a0 (fun g a => (qdc z a (fun a => (Or.inr a))))
     have e := q
     have p := Mov.trans z a0.blk s
     refine qbo el60 ([(⟨10, 3, 0, 0⟩ : D.Ins)] : List D.Ins) (fun _ => by kernel_rfl) rfl (fun d8 d9 ay az => ?_)
     have da := ay.qbk c.lt
     have b3 := Own.qbS e ay (Nat.le_refl _)
     have c := c.ext az
     have e := e.ext az
     have ab := ay.mono d.size
     have d := d.then az
     obtain ⟨cb, H⟩ := H
     refine qcX qda qda.under e ab.row (Nat.zero_le _) rfl (by first | rfl | omega | (simp; done) | (simp; omega)) cb (fun db dc dd q a1 => ?_)
     have E := Apart.app v a1 c.lt
     have c := c.app a1 v
     have cc := qc0.app (b3).symm a1 ab
     have ab := ab.app a1 (b3).symm
     have v := E
     have de := cc
     have s := d.size
     have d := d.app a1 (fun g a => (qdc p a (fun a => (Or.inr a))))
     have e := q
     have p := Mov.trans p a1.blk s
     refine qbo el60 ([(⟨3, 0, 0, 1⟩ : D.Ins), (⟨1, 2, 1, 0⟩ : D.Ins), (⟨4, 3, 3, 2⟩ : D.Ins)] : List D.Ins) (fun _ => by kernel_rfl) rfl (fun df dg aA aB => ?_)
     have dh := aA.qbk c.lt
     have b4 := Own.qbS e aA (Nat.le_refl _)
     have c := c.ext aB
     have e := e.ext aB
     have ac := aA.mono d.size
     have d := d.then aB
     obtain ⟨cd, H⟩ := H
     refine qcX qda qda.under e ac.row (Nat.zero_le _) rfl (by first | rfl | omega | (simp; done) | (simp; omega)) cd (fun di dj dk q a2 => ?_)
     have E := Apart.app v a2 c.lt
     have c := c.app a2 v
     have ce := qc0.app (b4).symm a2 ac
     have ac := ac.app a2 (b4).symm
     have v := E
     have dl := ce
     have s := d.size
     have d := d.app a2 (fun g a => (qdc p a (fun a => (Or.inr a))))
     have e := q
     have p := Mov.trans p a2.blk s
     refine qbo el60 ([(⟨11, 0, (((f ++ ([(⟨8, 3, 0, 0⟩ : D.Ins)] : List D.Ins))).length : Int), 0⟩ : D.Ins)] : List D.Ins) (fun _ => by kernel_rfl) rfl (fun dm dn aC aD => ?_)
     have dp := aC.qbk c.lt
     have b5 := Own.qbS e aC (Nat.le_refl _)
     have c := c.ext aD
     have e := e.ext aD
     have ad := aC.mono d.size
     have d := d.then aD
     obtain ⟨cf, H⟩ := H
     refine qcX qda qda.under e ad.row (Nat.zero_le _) rfl (by first | rfl | omega | (simp; done) | (simp; omega)) cf (fun cg ch dq q a3 => ?_)
     have E := Apart.app v a3 c.lt
     have c := c.app a3 v
     have ci := qc0.app (b5).symm a3 ad
     have ad := ad.app a3 (b5).symm
     have v := E
     have dr := ci
     have s := d.size
     have d := d.app a3 (fun g a => (qdc p a (fun a => (Or.inr a))))
     have e := q
     have p := Mov.trans p a3.blk s
     obtain ⟨⟨aE, aF⟩, H⟩ := H
     obtain ⟨cj, ae, ds⟩ := Row.at e.row aE aF
     refine ⟨aE, aF, cj, ae, ?_⟩
     refine Own.storeAt e ae aE aF 2 [(iv ((((((f ++ ([(⟨8, 3, 0, 0⟩ : D.Ins)] : List D.Ins)) ++ ([(⟨10, 3, 0, 0⟩ : D.Ins)] : List D.Ins)) ++ ([(⟨3, 0, 0, 1⟩ : D.Ins), (⟨1, 2, 1, 0⟩ : D.Ins), (⟨4, 3, 3, 2⟩ : D.Ins)] : List D.Ins)) ++ ([(⟨11, 0, (((f ++ ([(⟨8, 3, 0, 0⟩ : D.Ins)] : List D.Ins))).length : Int), 0⟩ : D.Ins)] : List D.Ins))).length : Int))] (⟨(rd ((((f ++ ([(⟨8, 3, 0, 0⟩ : D.Ins)] : List D.Ins)) ++ ([(⟨10, 3, 0, 0⟩ : D.Ins)] : List D.Ins)) ++ ([(⟨3, 0, 0, 1⟩ : D.Ins), (⟨1, 2, 1, 0⟩ : D.Ins), (⟨4, 3, 3, 2⟩ : D.Ins)] : List D.Ins)) ++ ([(⟨11, 0, (((f ++ ([(⟨8, 3, 0, 0⟩ : D.Ins)] : List D.Ins))).length : Int), 0⟩ : D.Ins)] : List D.Ins)) (((f ++ ([(⟨8, 3, 0, 0⟩ : D.Ins)] : List D.Ins))).length : Int)).Op, (rd ((((f ++ ([(⟨8, 3, 0, 0⟩ : D.Ins)] : List D.Ins)) ++ ([(⟨10, 3, 0, 0⟩ : D.Ins)] : List D.Ins)) ++ ([(⟨3, 0, 0, 1⟩ : D.Ins), (⟨1, 2, 1, 0⟩ : D.Ins), (⟨4, 3, 3, 2⟩ : D.Ins)] : List D.Ins)) ++ ([(⟨11, 0, (((f ++ ([(⟨8, 3, 0, 0⟩ : D.Ins)] : List D.Ins))).length : Int), 0⟩ : D.Ins)] : List D.Ins)) (((f ++ ([(⟨8, 3, 0, 0⟩ : D.Ins)] : List D.Ins))).length : Int)).A, ((((((f ++ ([(⟨8, 3, 0, 0⟩ : D.Ins)] : List D.Ins)) ++ ([(⟨10, 3, 0, 0⟩ : D.Ins)] : List D.Ins)) ++ ([(⟨3, 0, 0, 1⟩ : D.Ins), (⟨1, 2, 1, 0⟩ : D.Ins), (⟨4, 3, 3, 2⟩ : D.Ins)] : List D.Ins)) ++ ([(⟨11, 0, (((f ++ ([(⟨8, 3, 0, 0⟩ : D.Ins)] : List D.Ins))).length : Int), 0⟩ : D.Ins)] : List D.Ins))).length : Int), (rd ((((f ++ ([(⟨8, 3, 0, 0⟩ : D.Ins)] : List D.Ins)) ++ ([(⟨10, 3, 0, 0⟩ : D.Ins)] : List D.Ins)) ++ ([(⟨3, 0, 0, 1⟩ : D.Ins), (⟨1, 2, 1, 0⟩ : D.Ins), (⟨4, 3, 3, 2⟩ : D.Ins)] : List D.Ins)) ++ ([(⟨11, 0, (((f ++ ([(⟨8, 3, 0, 0⟩ : D.Ins)] : List D.Ins))).length : Int), 0⟩ : D.Ins)] : List D.Ins)) (((f ++ ([(⟨8, 3, 0, 0⟩ : D.Ins)] : List D.Ins))).length : Int)).C⟩ : D.Ins) rfl (Nat.le_of_ble_eq_true rfl) rfl (fun dt q b6 du => ?_)
     have U := c.chg b6 (fun a => (v) _ ae a.symm)
     have c := U
     have d := d.chgb b6 (qdc p ⟨_, ae, rfl⟩ (fun a => (Or.inr a)))
     have e := q
     obtain ⟨ck, cl, cm⟩ := H
     exact ⟨ck, cl, (List.set ((((f ++ ([(⟨8, 3, 0, 0⟩ : D.Ins)] : List D.Ins)) ++ ([(⟨10, 3, 0, 0⟩ : D.Ins)] : List D.Ins)) ++ ([(⟨3, 0, 0, 1⟩ : D.Ins), (⟨1, 2, 1, 0⟩ : D.Ins), (⟨4, 3, 3, 2⟩ : D.Ins)] : List D.Ins)) ++ ([(⟨11, 0, (((f ++ ([(⟨8, 3, 0, 0⟩ : D.Ins)] : List D.Ins))).length : Int), 0⟩ : D.Ins)] : List D.Ins)) ((((f ++ ([(⟨8, 3, 0, 0⟩ : D.Ins)] : List D.Ins))).length : Int).toNat) (⟨(rd ((((f ++ ([(⟨8, 3, 0, 0⟩ : D.Ins)] : List D.Ins)) ++ ([(⟨10, 3, 0, 0⟩ : D.Ins)] : List D.Ins)) ++ ([(⟨3, 0, 0, 1⟩ : D.Ins), (⟨1, 2, 1, 0⟩ : D.Ins), (⟨4, 3, 3, 2⟩ : D.Ins)] : List D.Ins)) ++ ([(⟨11, 0, (((f ++ ([(⟨8, 3, 0, 0⟩ : D.Ins)] : List D.Ins))).length : Int), 0⟩ : D.Ins)] : List D.Ins)) (((f ++ ([(⟨8, 3, 0, 0⟩ : D.Ins)] : List D.Ins))).length : Int)).Op, (rd ((((f ++ ([(⟨8, 3, 0, 0⟩ : D.Ins)] : List D.Ins)) ++ ([(⟨10, 3, 0, 0⟩ : D.Ins)] : List D.Ins)) ++ ([(⟨3, 0, 0, 1⟩ : D.Ins), (⟨1, 2, 1, 0⟩ : D.Ins), (⟨4, 3, 3, 2⟩ : D.Ins)] : List D.Ins)) ++ ([(⟨11, 0, (((f ++ ([(⟨8, 3, 0, 0⟩ : D.Ins)] : List D.Ins))).length : Int), 0⟩ : D.Ins)] : List D.Ins)) (((f ++ ([(⟨8, 3, 0, 0⟩ : D.Ins)] : List D.Ins))).length : Int)).A, ((((((f ++ ([(⟨8, 3, 0, 0⟩ : D.Ins)] : List D.Ins)) ++ ([(⟨10, 3, 0, 0⟩ : D.Ins)] : List D.Ins)) ++ ([(⟨3, 0, 0, 1⟩ : D.Ins), (⟨1, 2, 1, 0⟩ : D.Ins), (⟨4, 3, 3, 2⟩ : D.Ins)] : List D.Ins)) ++ ([(⟨11, 0, (((f ++ ([(⟨8, 3, 0, 0⟩ : D.Ins)] : List D.Ins))).length : Int), 0⟩ : D.Ins)] : List D.Ins))).length : Int), (rd ((((f ++ ([(⟨8, 3, 0, 0⟩ : D.Ins)] : List D.Ins)) ++ ([(⟨10, 3, 0, 0⟩ : D.Ins)] : List D.Ins)) ++ ([(⟨3, 0, 0, 1⟩ : D.Ins), (⟨1, 2, 1, 0⟩ : D.Ins), (⟨4, 3, 3, 2⟩ : D.Ins)] : List D.Ins)) ++ ([(⟨11, 0, (((f ++ ([(⟨8, 3, 0, 0⟩ : D.Ins)] : List D.Ins))).length : Int), 0⟩ : D.Ins)] : List D.Ins)) (((f ++ ([(⟨8, 3, 0, 0⟩ : D.Ins)] : List D.Ins))).length : Int)).C⟩ : D.Ins)), (wrap .i64 (I - 1)), K.2.i, K.2.h, cg, ch, (by first | rfl | (simp only [bC, wC, List.length_set])), cm, d, (by first | exact e | (simp only [bC, wC, List.length_set]; exact e)), p, (by first | exact c | (simp only [bC, wC, List.length_set]; exact c))⟩
    obtain ⟨cn, H⟩ := H
    obtain ⟨Q, co, H⟩ := qap H
    refine (qad.con cn co c (G.chgS d n) O (fun o => (fun g a j => n o g a (Or.inl j)))).mono ?_
    rintro _ dv ⟨rfl, l, cp, b7⟩
    simp only [bC, wC, cp] at l
    have e := e.chgS b7 (qcv (e.qas c (by decide)))
    have d := d.chg b7 (fun g a => Or.inr (Or.inl a))
    have c := l
    refine ⟨Q.1.Op, trivial, Q.1.A, trivial, Q.1.B, trivial, Q.1.C, trivial, rfl, ?_⟩
    refine qbo el60 ([Q.1] : List D.Ins) (fun _ => by kernel_rfl) rfl (fun dw dx aG aH => ?_)
    have dy := aG.qbk c.lt
    have b8 := Own.qbS e aG (Nat.le_refl _)
    have c := c.ext aH
    have e := e.ext aH
    have af := aG.mono d.size
    have d := d.then aH
    obtain ⟨cq, H⟩ := H
    refine qcX qda qda.under e af.row (Nat.zero_le _) rfl (by first | rfl | omega | (simp; done) | (simp; omega)) cq (fun cr cs dz q a4 => ?_)
    have E := Apart.app (e.qas c (by decide)) a4 c.lt
    have c := c.app a4 (e.qas c (by decide))
    have ct := qc0.app (b8).symm a4 af
    have af := af.app a4 (b8).symm
    have v := E
    have dA := ct
    have s := d.size
    have d := d.app a4 (fun g a => (qdc z a (fun a => (Or.inr a))))
    have e := q
    have p := Mov.trans z a4.blk s
    obtain ⟨cu, cv, cw⟩ := H
    exact ⟨cu, cv, (f ++ ([Q.1] : List D.Ins)), (wrap .i64 (I - 1)), Q.2.i, Q.2.h, cr, cs, rfl, cw, d, e, p, c⟩
   obtain rfl := hr.trans H.symm
   exact ⟨J, P, rfl, (e.mono (Nat.zero_le _)), z, c, rfl, d⟩
  obtain rfl := hr.trans H.symm
  exact ⟨J, P, rfl, (e.mono (Nat.zero_le _)), z, c, rfl, d⟩

theorem qae.con {a : D.Cur} {c k o : Nat} {f d : OA} {j : List D.Ins} {l : Int} {r : (List D.Ins) × D.Cur} {w : World} (q : M.qbg a j l) (s : r = M.qae a j l) (t : Blk w c 71 #[(sv f a.b.length k), (iv a.i), (iv a.h)]) (u : Row el5 w f a.b) (v : a.b.length ≤ k) (x : Own el60 w 0 d o j) (y : a.b ≠ [] → ∀ g, InB f g → ¬ (fun e => e = c ∨ InB d e) g) :
    Cl 41 #[(.pointer (some (bx c))), (sv d j.length o), (iv l)] w (fun z m => ∃ (n : OA) (p : Nat), z = (sv n r.1.length p) ∧ Own el60 m 0 n p r.1 ∧ Mov w d n ∧ Blk m c 71 #[(sv f r.2.b.length k), (iv r.2.i), (iv r.2.h)] ∧ r.2.b = a.b ∧ Chg (fun e => e = c ∨ InB d e) w m) := qae.con_ _ q s t u v x y rfl
def qaa.vc (b : Addr) (w : World) (K : VK) : Prop :=
  Run Try.prog (Instr.buildSlice 35 0 #[]) w fun y z => ∃ (d : OA) (e f : Nat), y = .slice d e f ∧ qg0 (σ := (OA × Nat × Nat) × Unit) (fun j => Cl 40 #[(.pointer (some b)), (iv 4)] z fun A k => (∃ (l : Bool), A = (.bool l) ∧ qa5 (!l) (Cl 29 #[(.pointer (some b)), (iv 2)] k fun B C => (∃ (m : Int), B = (iv m) ∧ Run Try.prog (Instr.buildSlice 35 1 #[(0, (.agg #[(iv 8), (iv m), (iv 0), (iv 0)]))]) C fun D E => ∃ (n : OA) (o p : Nat), D = .slice n o p ∧ Run Try.prog (Builtin.append_ #[35, 35] 35 #[(sv d e f), (sv n o p)]) E fun F G => ∃ (q : OA) (r s : Nat), F = .slice q r s ∧ j ((q, r, s), ()) G)) (j ((d, e, f), ()) k))) fun g H => Cl 41 #[(.pointer (some b)), (sv g.1.1 g.1.2.1 g.1.2.2), (iv 2)] H fun I J => (∃ (c : OA) (a h : Nat), I = (sv c a h) ∧ qg0 (σ := Bool × Unit) (fun t => Cl 40 #[(.pointer (some b)), (iv 6)] J fun L u => (∃ (v : Bool), L = (.bool v) ∧ qa5 v (t ((decide (((a : Nat) : Int) > 1)), ()) u) (t (false, ()) u))) fun M x => qa5 M.1 (Cl 29 #[(.pointer (some b)), (iv ((a : Nat) : Int))] x fun N O => (∃ (i : Int), N = (iv i) ∧ (idx i a c fun P => qag (P.add ((i.toNat) * 4)) [(iv 12), (iv 0), (iv 0), (iv 0)] 0 O fun Q => K (sv c a h) Q))) (K (sv c a h) x))

def qaa.ann : Ann := (.seq .l (.seq .l (.cut [(3, .sl)] (.seq .l (.two .l .l)) (.seq .l (.seq (.cut [(23, .bool)] .l (.two .l .l)) (.seq .l .l))))))

theorem qaa.con {k : D.Cur} {l u : Nat} {s : OA} {r : (List D.Ins) × D.Cur} {w : World} (hp : M.qce k) (T : r = M.qaa k) (d : Blk w l 71 #[(sv s k.b.length u), (iv k.i), (iv k.h)]) (t : Row el5 w s k.b) (v : k.b.length ≤ u) (n : k.b ≠ [] → ∀ g, InB s g → ¬ (fun p => p = l) g) :
    Cl 27 #[(.pointer (some (bx l)))] w (fun v_ m => ∃ (U : OA) (V : Nat), v_ = (sv U r.1.length V) ∧ Own el60 m w.heap.size U V r.1 ∧ Blk m l 71 #[(sv s r.2.b.length u), (iv r.2.i), (iv r.2.h)] ∧ r.2.b = k.b ∧ Chg (fun p => p = l) w m) := by
 have H := wp.qaa.math k hp
 have a := Chg.refl (fun p => p = l) w
 refine begK mixed Try.f27 ann (vc (bx l)) ?_
 unfold vc
 unfold wp.qaa at H
 refine qbo el60 ([] : List D.Ins) (fun _ => by kernel_rfl) rfl (fun a5 aC x W => ?_)
 have C := x.qbk d.lt
 have d := d.ext W
 have q := x.mono a.size
 have a := a.then W
 obtain ⟨a6, a7, H⟩ := qdl H
 refine ⟨fun E m => ∃ (y : List D.Ins) (F G : Int) (I : OA) (J : Nat), E = ((I, y.length, J), ()) ∧ a6 (y, F, G, ()) ∧ Chg (fun p => p = l) w m ∧ Own el60 m w.heap.size I J y ∧ Blk m l 71 #[(sv s k.b.length u), (iv F), (iv G)], ?_, ?_⟩
 ·obtain ⟨a8, H⟩ := H
  obtain ⟨a9, aa, H⟩ := qap H
  refine (qaI.con a8 aa d (t.chgS a n) v (fun o => (fun g c f => n o g c f))).mono ?_
  rintro _ aD ⟨rfl, j, ab, X⟩
  simp only [bC, wC, ab] at j
  have q := q.chgS X (qcv C)
  have a := a.chg X (fun g c => Or.inr c)
  have d := j
  refine ⟨a9.1, rfl, ?_⟩
  apply brc H<;>intro h H
  ·obtain ⟨ac, H⟩ := H
   obtain ⟨Y, ad, H⟩ := qap H
   refine (qa0.con ac ad d (t.chgS a n) v (fun o => (fun g c f => n o g c f))).mono ?_
   rintro _ aE ⟨rfl, j, ae, Z⟩
   simp only [bC, wC, ae] at j
   have a := a.chg Z (fun g c => Or.inr c)
   refine ⟨Y.1, rfl, ?_⟩
   refine qbo el60 ([(⟨8, Y.1, 0, 0⟩ : D.Ins)] : List D.Ins) (fun _ => by kernel_rfl) rfl (fun aF aG P6 K => ?_)
   have q := (q.chgS Z (qcv C)).ext K
   have O6 := P6.mono a.size
   have a := a.then K
   obtain ⟨af, H⟩ := H
   refine appO qda q O6.row a.size af (fun ag ah aH x a0 => ?_)
   have d := (j.ext K).app a0 C
   have a := a.app a0 (fun g c => Or.inl (q.low g c))
   have q := x
   exact ⟨_, _, _, ag, ah, rfl, H, a, q, d⟩
  exact ⟨_, _, _, a5, 0, rfl, H, a, q, d⟩
 rintro _ aI ⟨y, F, G, I, J, rfl, H, a, z, d⟩
 have H := a7 _ H
 try dsimp only at H ⊢
 obtain ⟨ai, H⟩ := H
 obtain ⟨a1, aj, H⟩ := qap H
 refine (qae.con ai aj d (t.chgS a n) v (z.mono (Nat.zero_le _)) (fun o => (fun g c => (fun f => f.elim ((fun g c f => n o g c f) g c) ((fun g c f => Nat.not_le.2 (t.old o g c) (z.low g f)) g c))))).mono ?_
 rintro _ aJ ⟨A, B, rfl, L, ak, j, al, am⟩
 simp only [bC, wC, al] at j
 have an := ak.low z.low a.size
 have a := a.chg am (fun g => (fun f => f.elim ((fun g c => Or.inr c) g) ((fun g c => Or.inl (z.low g c)) g)))
 have d := j
 have e := L.lift an
 refine ⟨A, a1.1.length, B, rfl, ?_⟩
 obtain ⟨ao, ap, H⟩ := qdl H
 refine ⟨fun E m => ∃ (N : Bool) (O P : Int), E = (N, ()) ∧ ao (N, O, P, ()) ∧ Chg (fun p => p = l) w m ∧ Blk m l 71 #[(sv s k.b.length u), (iv O), (iv P)] ∧ Own el60 m w.heap.size A B a1.1, ?_, ?_⟩
 ·obtain ⟨aq, H⟩ := H
  obtain ⟨ar, au, H⟩ := qap H
  refine (qaI.con aq au d (t.chgS a n) v (fun o => (fun g c f => n o g c f))).mono ?_
  rintro _ aK ⟨rfl, j, av, a2⟩
  simp only [bC, wC, av] at j
  have e := e.chgS a2 (qcv (e.qas d (by decide)))
  have a := a.chg a2 (fun g c => Or.inr c)
  have d := j
  refine ⟨ar.1, rfl, ?_⟩
  apply brc H<;>intro h H
  ·exact ⟨_, _, _, rfl, H, a, d, e⟩
  exact ⟨_, _, _, rfl, H, a, d, e⟩
 rintro _ aL ⟨N, O, P, rfl, H, a, d, e⟩
 have H := ap _ H
 try dsimp only at H ⊢
 apply brc H<;>intro h H
 ·obtain ⟨aw, H⟩ := H
  obtain ⟨ax, ay, H⟩ := qap H
  refine (qa0.con aw ay d (t.chgS a n) v (fun o => (fun g c f => n o g c f))).mono ?_
  rintro _ aM ⟨rfl, j, az, a3⟩
  simp only [bC, wC, az] at j
  have e := e.chgS a3 (qcv (e.qas d (by decide)))
  have d := j
  refine ⟨ax.1, rfl, ?_⟩
  obtain ⟨⟨Q, R⟩, H⟩ := H
  obtain ⟨aA, S, aN⟩ := Row.at e.row Q R
  refine ⟨Q, R, aA, S, ?_⟩
  refine Own.stA e S Q R 0 (⟨12, 0, 0, 0⟩ : D.Ins) (fun aO L a4 aB => ?_)
  have d := d.chg a4 (fun c => ((e.qas d (by decide))) _ S c.symm)
  have a := (a.chg a3 (fun g c => Or.inr c)).chgb a4 (Or.inl aB)
  have e := L
  cases T.trans H.symm
  exact ⟨A, B, (by first | rfl | (simp; done) | (simp; omega) | (simp [*]; done)), (by first | exact e | (simp only [bC, wC, List.length_set]; exact e)), (by first | exact d | (simp only [bC, wC, List.length_set]; exact d)), rfl, a⟩
 cases T.trans H.symm
 exact ⟨A, B, rfl, e, d, rfl, a⟩
def qaD.vc (e : OA) (f g : Nat) (w : World) (K : VK) : Prop :=
  Cl 28 #[(sv e f g)] w fun h i => (∃ (a : Addr), h = (.pointer (some a)) ∧ Cl 27 #[(.pointer (some a))] i fun j k => (∃ (b : OA) (c d : Nat), j = (sv b c d) ∧ K (sv b c d) k))

def qaD.ann : Ann := (.seq .l (.seq .l .l))

theorem qaD.con {b : List Int} {d : OA} {e : Nat} {r : List D.Ins} {w : World} (o : M.qbX b) (p : r = M.qaD b) (f : Row el5 w d b) (h : b.length ≤ e) :
    Cl 16 #[(sv d b.length e)] w (fun q i => ∃ (j : OA) (k : Nat), q = (sv j r.length k) ∧ Own el60 i w.heap.size j k r ∧ Ext w i) := by
 have H := wp.qaD.math b o
 have a := Ext.refl w
 refine begK mixed Try.f16 ann (vc d b.length e) ?_
 unfold vc
 unfold wp.qaD at H
 obtain ⟨s, H⟩ := H
 obtain ⟨L, t, H⟩ := qap H
 refine (qaf.con s t (f.ext a) h).mono ?_
 rintro _ N ⟨u, rfl, l, v, c, x⟩
 simp only [bC, wC, v] at l
 have c := Nat.le_trans a.size c
 have a := qam a x
 refine ⟨(bx u), rfl, ?_⟩
 obtain ⟨y, H⟩ := H
 obtain ⟨z, A, H⟩ := qap H
 refine (qaa.con y A l (f.ext a) h (fun B => (fun g C E => Nat.not_le.2 (f.old B g C) (qdE c _ E)))).mono ?_
 rintro _ O ⟨m, n, rfl, F, G, I, J⟩
 simp only [bC, wC, I] at G
 have K := F.mono a.size
 have a := Chg.ext a J (qdE c)
 refine ⟨m, z.1.length, n, rfl, ?_⟩
 cases p.trans H.symm
 exact ⟨m, n, rfl, K, a⟩
def qaP.vc (h : OA) (e p : Nat) (i : Int) (w : World) (K : VK) : Prop :=
  qe9 (σ := Int × Int × Unit) (fun a b f => qa5 (decide (a.2.1 < ((e : Nat) : Int))) ((idx a.2.1 e h fun c => ldI b ((c.add ((a.2.1.toNat) * 4)).add 0) fun j => ldI b ((c.add ((a.2.1.toNat) * 4)).add 1) fun k => ldI b ((c.add ((a.2.1.toNat) * 4)).add 2) fun l => ldI b ((c.add ((a.2.1.toNat) * 4)).add 3) fun m => newK b (.cells #[(iv 0), (iv 0), (iv 0), (iv 0)] 60) fun g n => qag (bx g) [(iv j), (iv k), (iv l), (iv m)] 0 n fun d => ldI d (((bx g).add 0).add 0) fun o => qa5 (o == i) (f ((wrap .i64 (a.1 + 1)), (wrap .i64 (a.2.1 + 1)), ()) d) (f (a.1, (wrap .i64 (a.2.1 + 1)), ()) d))) (K (iv a.1) b)) (0, 0, ()) w

def qaP.ann : Ann := (.seq .l (.seq .l (.seq (.seq .l (.one (.loop [(5, .int .i64), (10, .int .i64)] (.seq .l (.seq (.two .l .l) (.seq (.one (.seq .l (.seq .l (.two .l .l)))) .l)))))) (.seq .l .l))))

theorem qaP.con {b : List D.Ins} {i : OA} {j : Nat} {e r : Int} {w : World} (p : M.qbK b e) (q : r = M.qaP b e) (s : Row el60 w i b) (R : b.length ≤ j) :
    Cl 20 #[(sv i b.length j), (iv e)] w (fun t k => t = (iv r) ∧ Ext w k) := by
 have H := wp.qaP.math b e p
 have c := Ext.refl w
 refine begK mixed Try.f20 ann (vc i b.length j e) ?_
 unfold vc
 unfold wp.qaP at H
 obtain ⟨u, ⟨v, x⟩, l⟩ := H
 refine ⟨fun y z k => ∃ (f d : Int), z = (f, d, ()) ∧ u y (f, d, ()) ∧ Ext w k, ⟨v, 0, 0, rfl, x, c⟩, ?_⟩
 rintro E _ S ⟨f, d, rfl, m, c⟩
 have H := l E _ m
 clear l m
 try dsimp only at H ⊢
 apply brc H<;>intro h H
 ·obtain ⟨⟨n, o⟩, H⟩ := H
  obtain ⟨F, G, g⟩ := Row.at (s.ext c) n o
  refine ⟨n, o, F, G, _, (g 0 _ rfl), _, (g 1 _ rfl), _, (g 2 _ rfl), _, (g 3 _ rfl), ?_⟩
  refine qgn #[(iv ((rd b d).Op)), (iv ((rd b d).A)), (iv ((rd b d).B)), (iv ((rd b d).C))] (fun T U V I J => ?_)
  have c := qam c J
  refine ⟨_, (I.a 0), ?_⟩
  apply brc H<;>intro h H
  ·obtain ⟨K, L, N⟩ := H
   exact ⟨K, L, _, _, rfl, N, c⟩
  obtain ⟨O, P, Q⟩ := H
  exact ⟨O, P, f, _, rfl, Q, c⟩
 cases q.trans H.symm
 exact ⟨rfl, c⟩
def qa3.vc (e : OA) (c d : Nat) (a : Int) (i : OA) (b j : Nat) (w : World) (K : VK) : Prop :=
  ((0 : Int) ≤ a ∧ a ≤ ((c : Nat) : Int) ∧ qa5 (((b : Nat) : Int) == 0) (K (sv e c d) w) (qa5 (a == ((c : Nat) : Int)) (Run Try.prog (Builtin.append_ #[35, 35] 35 #[(sv e c d), (sv i b j)]) w fun p q => ∃ (k : OA) (l m : Nat), p = .slice k l m ∧ K (sv k l m) q) (qa5 (decide ((wrap .i64 (((c : Nat) : Int) + ((b : Nat) : Int))) > ((d : Nat) : Int))) (((0 : Int) ≤ a ∧ a ≤ ((d : Nat) : Int) ∧ Run Try.prog (Builtin.append_ #[35, 3] 35 #[(sv e (a.toNat) d), (iv (wrap .i64 ((wrap .i64 (((c : Nat) : Int) + ((b : Nat) : Int))) - a)))]) w fun r s => ∃ (f : OA) (g h : Nat), r = .slice f g h ∧ ((0 : Int) ≤ a ∧ a ≤ ((g : Nat) : Int) ∧ Run Try.prog (Builtin.copy_ #[35, 35] 3 #[(sv (if h = (a.toNat) then f else f.map (·.add ((a.toNat) * szOf Try.prog 60))) (g - (a.toNat)) (h - (a.toNat))), (sv i b j)]) s fun t u => ∃ v : Int, t = .int .i64 v ∧ ((0 : Int) ≤ (wrap .i64 (a + ((b : Nat) : Int))) ∧ (wrap .i64 (a + ((b : Nat) : Int))) ≤ ((g : Nat) : Int) ∧ ((0 : Int) ≤ a ∧ a ≤ ((c : Nat) : Int) ∧ ((Run Try.prog (Builtin.copy_ #[35, 35] 3 #[(sv (if h = ((wrap .i64 (a + ((b : Nat) : Int))).toNat) then f else f.map (·.add (((wrap .i64 (a + ((b : Nat) : Int))).toNat) * szOf Try.prog 60))) (g - ((wrap .i64 (a + ((b : Nat) : Int))).toNat)) (h - ((wrap .i64 (a + ((b : Nat) : Int))).toNat))), (sv (if d = (a.toNat) then e else e.map (·.add ((a.toNat) * szOf Try.prog 60))) (c - (a.toNat)) (d - (a.toNat)))]) u.drew fun x y => ∃ z : Int, x = .int .i64 z ∧ K (sv f g h) y) ∧ True)))))) (((0 : Int) ≤ (wrap .i64 (((c : Nat) : Int) + ((b : Nat) : Int))) ∧ (wrap .i64 (((c : Nat) : Int) + ((b : Nat) : Int))) ≤ ((d : Nat) : Int) ∧ ((0 : Int) ≤ (wrap .i64 (a + ((b : Nat) : Int))) ∧ (wrap .i64 (a + ((b : Nat) : Int))) ≤ ((((wrap .i64 (((c : Nat) : Int) + ((b : Nat) : Int))).toNat) : Nat) : Int) ∧ Cl 45 #[(sv i b j), (sv (if d = ((wrap .i64 (a + ((b : Nat) : Int))).toNat) then e else e.map (·.add (((wrap .i64 (a + ((b : Nat) : Int))).toNat) * szOf Try.prog 60))) (((wrap .i64 (((c : Nat) : Int) + ((b : Nat) : Int))).toNat) - ((wrap .i64 (a + ((b : Nat) : Int))).toNat)) (d - ((wrap .i64 (a + ((b : Nat) : Int))).toNat)))] w fun A n => (∃ (o : Bool), A = (.bool o) ∧ qa5 (!o) (((0 : Int) ≤ (wrap .i64 (a + ((b : Nat) : Int))) ∧ (wrap .i64 (a + ((b : Nat) : Int))) ≤ ((((wrap .i64 (((c : Nat) : Int) + ((b : Nat) : Int))).toNat) : Nat) : Int) ∧ ((0 : Int) ≤ a ∧ a ≤ ((((wrap .i64 (((c : Nat) : Int) + ((b : Nat) : Int))).toNat) : Nat) : Int) ∧ ((Run Try.prog (Builtin.copy_ #[35, 35] 3 #[(sv (if d = ((wrap .i64 (a + ((b : Nat) : Int))).toNat) then e else e.map (·.add (((wrap .i64 (a + ((b : Nat) : Int))).toNat) * szOf Try.prog 60))) (((wrap .i64 (((c : Nat) : Int) + ((b : Nat) : Int))).toNat) - ((wrap .i64 (a + ((b : Nat) : Int))).toNat)) (d - ((wrap .i64 (a + ((b : Nat) : Int))).toNat))), (sv (if d = (a.toNat) then e else e.map (·.add ((a.toNat) * szOf Try.prog 60))) (((wrap .i64 (((c : Nat) : Int) + ((b : Nat) : Int))).toNat) - (a.toNat)) (d - (a.toNat)))]) n.drew fun B C => ∃ D : Int, B = .int .i64 D ∧ ((0 : Int) ≤ a ∧ a ≤ ((((wrap .i64 (((c : Nat) : Int) + ((b : Nat) : Int))).toNat) : Nat) : Int) ∧ Run Try.prog (Builtin.copy_ #[35, 35] 3 #[(sv (if d = (a.toNat) then e else e.map (·.add ((a.toNat) * szOf Try.prog 60))) (((wrap .i64 (((c : Nat) : Int) + ((b : Nat) : Int))).toNat) - (a.toNat)) (d - (a.toNat))), (sv i b j)]) C fun E F => ∃ G : Int, E = .int .i64 G ∧ K (sv e ((wrap .i64 (((c : Nat) : Int) + ((b : Nat) : Int))).toNat) d) F)) ∧ True)))) (((0 : Int) ≤ ((c : Nat) : Int) ∧ ((c : Nat) : Int) ≤ ((((wrap .i64 (((c : Nat) : Int) + ((b : Nat) : Int))).toNat) : Nat) : Int) ∧ Run Try.prog (Builtin.copy_ #[35, 35] 3 #[(sv (if d = (((c : Nat) : Int).toNat) then e else e.map (·.add ((((c : Nat) : Int).toNat) * szOf Try.prog 60))) (((wrap .i64 (((c : Nat) : Int) + ((b : Nat) : Int))).toNat) - (((c : Nat) : Int).toNat)) (d - (((c : Nat) : Int).toNat))), (sv i b j)]) n fun H I => ∃ J : Int, H = .int .i64 J ∧ ((0 : Int) ≤ a ∧ a ≤ ((((wrap .i64 (((c : Nat) : Int) + ((b : Nat) : Int))).toNat) : Nat) : Int) ∧ Cl 46 #[(sv (if d = (a.toNat) then e else e.map (·.add ((a.toNat) * szOf Try.prog 60))) (((wrap .i64 (((c : Nat) : Int) + ((b : Nat) : Int))).toNat) - (a.toNat)) (d - (a.toNat))), (iv ((b : Nat) : Int))] I fun L M => (L = (.tuple #[]) ∧ K (sv e ((wrap .i64 (((c : Nat) : Int) + ((b : Nat) : Int))).toNat) d) M)))))))))))

def qa3.ann : Ann := (.seq .l (.seq .l (.seq .l (.seq (.seq .l (.two (.seq .l .l) .l)) (.seq .l (.seq (.seq .l (.two (.seq .l .l) .l)) (.seq (.seq .l (.two (.seq .l (.seq .l (.seq .each (.seq .l .l)))) .l)) (.seq .l (.seq (.seq .l (.two (.seq .each (.seq .l (.seq .l .l))) .l)) (.seq .l (.seq .l (.seq .l .l))))))))))))

theorem qa3.qgW (A0 : OA) (n0 c0 : Nat) (x1 : Int) (A2 : OA) (n2 c2 : Nat) (w : World) (K : Value → World → Prop) : vcF Try.prog Try.f34 qa3.ann [(sv A0 n0 c0), (iv x1), (sv A2 n2 c2)] K w = qa3.vc A0 n0 c0 x1 A2 n2 c2 w K := by kernel_rfl

theorem qa3.start {A0 : OA} {n0 c0 : Nat} {x1 : Int} {A2 : OA} {n2 c2 : Nat} {w : World} {K : Value → World → Prop} (h : qa3.vc A0 n0 c0 x1 A2 n2 c2 w K) : Cl 34 #[(sv A0 n0 c0), (iv x1), (sv A2 n2 c2)] w K :=
  qcp mixed (fn := Try.f34) (by kernel_rfl) (by kernel_rfl) (an := qa3.ann) (args := [(sv A0 n0 c0), (iv x1), (sv A2 n2 c2)]) (by rw [qa3.qgW]; exact h)
end Go.V
set_option linter.unusedVariables false
set_option linter.unusedSimpArgs false
set_option maxRecDepth 100000
namespace Go.V
open IntKind (wrap)
open Go.Proofs
theorem qco : SlT Try.prog el60 35 := qgF (by kernel_rfl) (by kernel_rfl)
theorem qgh : szOf Try.prog 60 = el60.sz := by kernel_rfl
set_option maxHeartbeats 1000000 in
theorem qa3.con {b : List D.Ins} {q : Option Addr} {c : Nat} {s : Int} {j : List D.Ins} {A2 : Option Addr} {H : Nat} {r : List D.Ins} {w : World} (Q : M.qbm b s j) (f : r = M.qa3 b s j) (l : Own el60 w 0 q c b) (u : Row el60 w A2 j) (a5 : j.length ≤ H) (I : j ≠ [] → ∀ g, InB A2 g → ¬ InB q g) :
    Cll Try.prog 34 #[(.slice q b.length c), (.int .i64 s), (.slice A2 j.length H)] w (fun R J => ∃ (A : Option Addr) (K : Nat), R = (.slice A r.length K) ∧ Own el60 J 0 A K r ∧ Mov w q A ∧ Chg (InB q) w J) := by
  obtain ⟨t, S, hl, hv⟩ := Q
  obtain ⟨k, rfl⟩ : ∃ k : Nat, s = (k : Int) := ⟨s.toNat, by omega⟩
  have hk : k ≤ b.length := by omega
  obtain ⟨y, rfl⟩ := List.length_eq_one_iff.1 hv
  have f : r = b.take k ++ [y] ++ b.drop k := by rw [f]; unfold M.qa3; rw [Int.toNat_natCast]
  have hrl : r.length = b.length + 1 := by rw [f]; simp; omega
  obtain ⟨inf, _, hinf, hsz, _⟩ := qco.info
  refine qa3.start ?_
  unfold qa3.vc
  have U : IntKind.wrap .i64 (((b.length : Nat) : Int) + (([y].length : Nat) : Int)) = ((b.length + 1 : Nat) : Int) := by rw [w64 (by simp; omega) (by simp; omega)]; simp
  have V : IntKind.wrap .i64 ((k : Int) + (([y].length : Nat) : Int)) = ((k + 1 : Nat) : Int) := by rw [w64 (by simp; omega) (by simp; omega)]; simp
  have W : IntKind.wrap .i64 (((b.length + 1 : Nat) : Int) - (k : Int)) = ((b.length + 1 - k : Nat) : Int) := by rw [w64 (by omega) (by omega)]; omega
  simp only [U, V, W, Int.toNat_natCast, qgh]
  refine ⟨t, S, qbI (by simp) (qa8 (fun e => ?_) fun e => ?_)⟩
  · have e : k = b.length := by
      have e : (k : Int) = ((b.length : Nat) : Int) := by simpa using e
      omega
    refine qcX qco qco.under l u (Nat.zero_le _) rfl rfl (by simp; omega) (fun A' c' w' O' ev => ?_)
    have f : r = b ++ [y] := by rw [f, e]; simp
    subst f
    exact ⟨A', c', rfl, O', ev.blk, ev.qgx⟩
  have e : k < b.length := by
    have e : ¬ (k : Int) = ((b.length : Nat) : Int) := by simpa using e
    omega
  have hle := l.le
  obtain ⟨x, B, X, Y, rfl, _, Z⟩ := l.some (by intro h; rw [h] at e; simp at e)
  refine qa8 (fun g => ?_) fun g => ?_
  · have g : ¬ b.length + 1 ≤ c := by simp at g; omega
    refine ⟨t, by omega, ?_⟩
    refine qgu qco (by kernel_rfl) (by decide) (n := k) (xs := b.take k) (by simp; omega) (l.row.take k) (by omega) (by simp; omega) (by simp; omega) (fun A' c' w4 O' ev => ?_)
    have hL : (b.take k ++ List.replicate (b.length + 1 - k) (default : D.Ins)).length = b.length + 1 := by simp; omega
    have hc' := O'.le
    rw [hL] at hc'
    obtain ⟨g1, o1, T1, a6, rfl, L, a7⟩ := O'.some (by intro h; rw [h] at hL; simp at hL)
    rw [if_neg (by omega : ¬ c' = k)]
    refine ⟨t, by omega, ?_⟩
    refine qeB (d := k) qco.under hinf hsz O' rfl (u.ext ev) 1 (by simp [Nat.min_def]; omega) (Nat.le_refl _) (by simp; omega) (by omega) (by omega) (fun C i E => ?_)
    have hT : (b.take k ++ List.replicate (b.length + 1 - k) (default : D.Ins)).take k = b.take k := by
      rw [List.take_append_of_le_length (by simp; omega)]
      rw [List.take_take, Nat.min_self]
    rw [hT] at i
    generalize hM : (b.take k ++ List.replicate (b.length + 1 - k) (default : D.Ins)).drop (k + 1) = o at *
    have a8 : o.length = b.length - k := by rw [← hM, List.length_drop, hL]; omega
    refine ⟨by omega, by omega, t, by omega, ?_, trivial⟩
    rw [if_neg (by omega : ¬ c' = k + 1)]
    have N : Ext w C.drew := qam (echg ev E L) (Ext.drew _)
    have i := i.ext (Ext.drew _)
    have a9 : (b.take k ++ ([y].take 1 ++ o)).length = b.length + 1 := by simp; omega
    refine qeB (d := k + 1) (m := b.length - k) (ys := b.drop k) (A2 := cutA c k (some ⟨x, B, none⟩) el60.sz) qco.under hinf hsz i rfl ((l.row.ext N).drop hle) (b.length - k) (by simp only [Nat.min_def]; split <;> omega) (by simp) (by omega) (by omega) (by omega) (fun O p F => ?_)
    have hfin : (b.take k ++ ([y].take 1 ++ o)).take (k + 1) ++ ((b.drop k).take (b.length - k) ++ (b.take k ++ ([y].take 1 ++ o)).drop (k + 1 + (b.length - k))) = r := by
      rw [f]
      have a1 : (b.take k ++ ([y].take 1 ++ o)).take (k + 1) = b.take k ++ [y] := by
        rw [← List.append_assoc]
        exact List.take_left' (by simp; omega)
      have z : (b.drop k).take (b.length - k) = b.drop k := List.take_of_length_le (by simp)
      have G : (b.take k ++ ([y].take 1 ++ o)).drop (k + 1 + (b.length - k)) = [] := List.drop_eq_nil_of_le (by omega)
      rw [a1, z, G, List.append_nil]
    rw [hfin] at p
    have e6 : Ext w O := echg N F L
    refine ⟨_, c', ?_, p.mono (Nat.zero_le _), Mov.new (p), e6.qgx⟩
    rw [hrl]; congr 1; omega
  · have g : b.length + 1 ≤ c := by simp at g; omega
    have hd : ∃ a, A2 = some a ∧ a.block ≠ x ∧ ∃ v, w.cell? a = some v := by
      obtain ⟨a, ha, hc⟩ := u.cells (by simp)
      have a0 := hc 0 y rfl 0 (.int .i64 y.Op) rfl
      exact ⟨a, ha, fun h => I (by simp) a.block ⟨a, ha, rfl⟩ ⟨_, rfl, h.symm⟩, .int .i64 y.Op, by simpa [Addr.add] using a0⟩
    obtain ⟨z, rfl, hne, v2, a4⟩ := hd
    refine ⟨by omega, by omega, by omega, by omega, ?_⟩
    rw [if_neg (by omega : ¬ c = k + 1)]
    refine Cll.now (v := .bool false) (w' := w) (qgI (fn := Try.f45) (by kernel_rfl) (by kernel_rfl) (by kernel_rfl) (by kernel_rfl) (e := Extern.SlicesOverlaps.overlaps #[35, 35] #[4]) (by kernel_rfl) (qfd qco.under hinf a4 (T := X) (cs := Y) Z hne)) ⟨false, rfl, qbn rfl ?_⟩
    refine ⟨by omega, by omega, by omega, by omega, ?_, trivial⟩
    have P := l.ext (Ext.drew w)
    refine qeB (d := k + 1) (m := b.length + 1 - k) (ys := b.drop k) (A2 := cutA c k (some ⟨x, B, none⟩) el60.sz) qco.under hinf hsz P rfl (P.row.drop hle) (b.length - k) (by simp only [Nat.min_def]; split <;> omega) (by simp) (by omega) (by omega) (by omega) (fun C i E => ?_)
    have z : (b.drop k).take (b.length - k) = b.drop k := List.take_of_length_le (by simp)
    have G : b.drop (k + 1 + (b.length - k)) = [] := List.drop_eq_nil_of_le (by omega)
    rw [z, G, List.append_nil] at i
    have hch : Chg (InB (some ⟨x, B, none⟩)) w C := ((Chg.refl _ w).then (Ext.drew _)).chgb E (.inr ⟨_, rfl, rfl⟩)
    refine ⟨t, by omega, ?_⟩
    rw [if_neg (by omega : ¬ c = k)]
    refine qeB (d := k) qco.under hinf hsz i rfl (u.chgS hch I) 1 (by simp [Nat.min_def]; omega) (Nat.le_refl _) (by simp; omega) (by omega) (by omega) (fun O p F => ?_)
    have hfin : (b.take (k + 1) ++ b.drop k).take k ++ ([y].take 1 ++ (b.take (k + 1) ++ b.drop k).drop (k + 1)) = r := by
      rw [f]
      have b1 : (b.take (k + 1) ++ b.drop k).take k = b.take k := by
        rw [List.take_append_of_le_length (by simp; omega), List.take_take]
        congr 1; omega
      have b2 : (b.take (k + 1) ++ b.drop k).drop (k + 1) = b.drop k := List.drop_left' (by simp; omega)
      rw [b1, b2]; simp
    rw [hfin] at p
    refine ⟨_, c, ?_, p, Mov.same _ _, hch.chgb F (.inr ⟨_, rfl, rfl⟩)⟩
    rw [hrl]
def qaU.vc (m : OA) (f n : Nat) (h : Int) (w : World) (K : VK) : Prop :=
  Cl 30 #[(sv m f n)] w fun C D => (∃ (c : OA) (b e : Nat), C = (sv c b e) ∧ Cl 31 #[(sv m f n)] D fun E i => (∃ (o : Bool), E = (.bool o) ∧ qa5 (!o) (K (.tuple #[(sv c b e), (.bool false)]) i) (qa5 (((f : Nat) : Int) == 32) (K (.tuple #[(sv c b e), (.bool false)]) i) (Cl 32 #[(iv h), (iv 0), (iv ((f : Nat) : Int))] i fun F p => (∃ (q : Bool), F = (.bool q) ∧ qa5 (!q) (K (.tuple #[(sv c b e), (.bool false)]) p) (qe9 (σ := Int × Unit) (fun a d r => qa5 (decide (a.1 < ((b : Nat) : Int))) ((idx a.1 b c fun g => ldI d ((g.add ((a.1.toNat) * 4)).add 0) fun G => ldI d ((g.add ((a.1.toNat) * 4)).add 1) fun H => ldI d ((g.add ((a.1.toNat) * 4)).add 2) fun I => ldI d ((g.add ((a.1.toNat) * 4)).add 3) fun J => newK d (.cells #[(iv 0), (iv 0), (iv 0), (iv 0)] 60) fun j L => qag (bx j) [(iv G), (iv H), (iv I), (iv J)] 0 L fun s => qg0 (σ := Bool × Unit) (fun t => ldI s (((bx j).add 0).add 0) fun M => Cl 33 #[(iv M)] s fun N k => (∃ (u : Bool), N = (.bool u) ∧ qa5 u (ldI k (((bx j).add 2).add 0) fun O => t ((decide (O > h)), ()) k) (t (false, ()) k))) fun P l => qa5 P.1 ((idx a.1 b c fun Q => ldI l (((Q.add ((a.1.toNat) * 4)).add 2).add 0) fun R => (idx a.1 b c fun S => qag ((S.add ((a.1.toNat) * 4)).add 2) [(iv (wrap .i64 (R + 1)))] 0 l fun T => r ((wrap .i64 (a.1 + 1)), ()) T))) (r ((wrap .i64 (a.1 + 1)), ()) l))) (Run Try.prog (Instr.buildSlice 35 1 #[(0, (.agg #[(iv 0), (iv 0), (iv 0), (iv 0)]))]) d fun U V => ∃ (v : OA) (x y : Nat), U = .slice v x y ∧ Cl 34 #[(sv c b e), (iv h), (sv v x y)] V fun W X => (∃ (z : OA) (A B : Nat), W = (sv z A B) ∧ K (.tuple #[(sv z A B), (.bool true)]) X))) (0, ()) p))))))

def qaU.ann : Ann := (.seq .l (.seq .l (.seq (.seq .l (.two (.seq .l .l) .l)) (.seq (.seq .l (.one (.loop [(29, .int .i64)] (.seq .l (.seq (.two .l .l) (.seq (.one (.seq .l (.cut [(42, .bool)] .l (.two .l .l)))) .l)))))) (.seq .l .l)))))

theorem qaU.con {g : List D.Ins} {p : OA} {q : Nat} {k : Int} {r : (List D.Ins) × Bool} {w : World} (X : M.qbz g k) (l : r = M.qaU g k) (E : Row el60 w p g) (F : g.length ≤ q) :
    Cl 18 #[(sv p g.length q), (iv k)] w (fun Y f => ∃ (G : OA) (I : Nat), Y = (.tuple #[(sv G r.1.length I), (.bool r.2)]) ∧ Own el60 f w.heap.size G I r.1 ∧ Ext w f) := by
 have H := wp.qaU.math g k X
 have b := Ext.refl w
 refine begK mixed Try.f18 ann (vc p g.length q k) ?_
 unfold vc
 unfold wp.qaU at H
 obtain ⟨Z, H⟩ := H
 obtain ⟨s, a0, H⟩ := qap H
 refine (qa9.con Z a0 (E.ext b) F).mono ?_
 rintro _ aD ⟨i, j, rfl, P2, a1⟩
 have c := P2.mono b.size
 have b := qam b a1
 refine ⟨i, s.length, j, rfl, ?_⟩
 obtain ⟨a2, H⟩ := H
 obtain ⟨a3, a4, H⟩ := qap H
 refine (qan.con a2 a4 (E.ext b) F).mono ?_
 rintro _ aE ⟨rfl, J⟩
 have c := c.ext J
 have b := qam b J
 refine ⟨a3, rfl, ?_⟩
 apply brc H<;>intro h H
 ·cases l.trans H.symm
  exact ⟨i, j, rfl, c, b⟩
 apply brc H<;>intro h H
 ·cases l.trans H.symm
  exact ⟨i, j, rfl, c, b⟩
 obtain ⟨a5, a6, H⟩ := qap H
 refine (qab.con a6 ).mono ?_
 rintro _ aF ⟨rfl, K⟩
 have c := c.ext K
 have b := qam b K
 refine ⟨a5, rfl, ?_⟩
 apply brc H<;>intro h H
 ·cases l.trans H.symm
  exact ⟨i, j, rfl, c, b⟩
 obtain ⟨a7, ⟨a8, a9⟩, L⟩ := H
 refine ⟨fun m_ t f => ∃ (e : Int) (d : List D.Ins), t = (e, ()) ∧ a7 m_ (e, d, ()) ∧ Ext w f ∧ Own el60 f w.heap.size i j d ∧ s.length = d.length, ⟨a8, 0, s, rfl, a9, b, c, (by first | rfl | assumption | omega | (simp; done) | (simp; omega) | (simp; assumption))⟩, ?_⟩
 rintro aa _ aG ⟨e, d, rfl, N, b, c, ab⟩
 have H := L aa _ N
 clear L N
 try dsimp only at H ⊢
 apply brc H<;>intro h H
 ·obtain ⟨⟨O, u⟩, H⟩ := H
  obtain ⟨ac, ad, m⟩ := Row.at c.row O u
  refine ⟨O, (by first | exact u | omega | (simp at u ⊢; omega)), ac, ad, _, (m 0 _ rfl), _, (m 1 _ rfl), _, (m 2 _ rfl), _, (m 3 _ rfl), ?_⟩
  refine qgn #[(iv ((rd d e).Op)), (iv ((rd d e).A)), (iv ((rd d e).B)), (iv ((rd d e).C))] (fun aH aI L4 n P => ?_)
  have c := c.ext P
  have b := qam b P
  obtain ⟨ae, af, H⟩ := qdl H
  refine ⟨fun t f => ∃ (v : Bool), t = (v, ()) ∧ ae (v, ()) ∧ Ext w f ∧ Own el60 f w.heap.size i j d, ?_, ?_⟩
  ·refine ⟨_, (n.a 0), ?_⟩
   obtain ⟨ag, ah, H⟩ := qap H
   refine (qaR.con ah ).mono ?_
   rintro _ aJ ⟨rfl, x⟩
   have c := c.ext x
   have n := n.ext x
   have b := qam b x
   refine ⟨ag, rfl, ?_⟩
   apply brc H<;>intro h H
   ·refine ⟨_, (n.a 2), ?_⟩
    exact ⟨_, rfl, H, b, c⟩
   exact ⟨_, rfl, H, b, c⟩
  rintro _ aK ⟨v, rfl, H, b, c⟩
  have H := af _ H
  try dsimp only at H ⊢
  apply brc H<;>intro h H
  ·obtain ⟨⟨Q, y⟩, H⟩ := H
   obtain ⟨ai, aj, ak⟩ := Row.at c.row Q y
   refine ⟨Q, (by first | exact y | omega | (simp at y ⊢; omega)), ai, aj, _, (ak 2 _ rfl), ?_⟩
   obtain ⟨⟨z, o⟩, H⟩ := H
   obtain ⟨al, R, aL⟩ := Row.at c.row z o
   refine ⟨z, (by first | exact o | omega | (simp at o ⊢; omega)), al, R, ?_⟩
   refine Own.stA c R z o 2 (⟨(rd d e).Op, (rd d e).A, (wrap .i64 ((rd d e).B + 1)), (rd d e).C⟩ : D.Ins) (fun aM c am an => ?_)
   have b := echg b am an
   obtain ⟨ao, ap, aq⟩ := H
   exact ⟨ao, ap, _, _, rfl, aq, b, c, (by first | rfl | assumption | omega | (simp; done) | (simp; omega) | (simp; assumption))⟩
  obtain ⟨ar, au, av⟩ := H
  exact ⟨ar, au, _, d, rfl, av, b, c, (by first | rfl | assumption | omega | (simp; done) | (simp; omega) | (simp; assumption))⟩
 refine qbo el60 ([(⟨0, 0, 0, 0⟩ : D.Ins)] : List D.Ins) (fun _ => by kernel_rfl) rfl (fun aO aP S T => ?_)
 have aw := aN c S
 have c := c.ext T
 have U := S.mono b.size
 have b := qam b T
 obtain ⟨ax, H⟩ := H
 obtain ⟨ay, az, H⟩ := qap H
 refine (qfN (by first | (simp only [bC, wC, List.length_set, ← ab]; done) | (simp; done)) (qa3.con ax az (c.mono (Nat.zero_le _)) U.row U.le (fun _ => ((aw).symm).inb))).mono ?_
 rintro _ aQ ⟨V, W, rfl, P6, aA, aB⟩
 have aC := aA.low c.low b.size
 have b := Chg.ext b aB c.low
 have O6 := P6.lift aC
 refine ⟨V, ay.length, W, rfl, ?_⟩
 cases l.trans H.symm
 exact ⟨V, W, rfl, O6, b⟩
def qbl.vc (h : OA) (i j : Nat) (w : World) (K : VK) : Prop :=
  Cl 15 #[(sv h i j)] w fun x p => (∃ (q : Bool), x = (.bool q) ∧ qa5 q (K (.bool true) p) (Cl 16 #[(sv h i j)] p fun y z => (∃ (e : OA) (a f : Nat), y = (sv e a f) ∧ Cl 17 #[(sv h i j)] z fun A r => (∃ (k : OA) (l B : Nat), A = (sv k l B) ∧ (idx 0 l k fun C => ldI r ((C.add (((0 : Int).toNat) * 1)).add 0) fun D => (((wrap .i64 (((a : Nat) : Int) + 1)) : Int) ≠ 0 ∧ Cl 18 #[(sv e a f), (iv (Int.tmod D (wrap .i64 (((a : Nat) : Int) + 1))))] r fun E m => (∃ F : Value, (∃ (c : OA) (b d : Nat), F = (sv c b d) ∧ ∃ G : Value, (∃ (g : Bool), G = (.bool g) ∧ E = (.tuple #[(sv c b d), (.bool g)]) ∧ qa5 (((a : Nat) : Int) == 32) (K (.bool (!g)) m) (qa5 g (Cl 19 #[(sv c b d)] m fun H n => (∃ (s : Bool), H = (.bool s) ∧ qa5 s (qa5 (((b : Nat) : Int) == (wrap .i64 (((a : Nat) : Int) + 1))) (Cl 20 #[(sv c b d), (iv 0)] n fun I J => (∃ (t : Int), I = (iv t) ∧ Cl 20 #[(sv e a f), (iv 0)] J fun L o => (∃ (u : Int), L = (iv u) ∧ qa5 (t == (wrap .i64 (u + 1))) ((idx 1 l k fun M => ldI o ((M.add (((1 : Int).toNat) * 1)).add 0) fun N => ((3 : Int) ≠ 0 ∧ Cl 21 #[(sv e a f), (sv c b d), (iv (Int.tmod N 3))] o fun O P => (∃ (v : Int), O = (iv v) ∧ K (.bool (v == 0)) P)))) (K (.bool false) o)))) (K (.bool false) n)) (K (.bool false) n))) (K (.bool false) m)))))))))))

def qbl.ann : Ann := (.seq .l (.seq (.seq .l (.two (.seq .l .l) .l)) (.seq .l (.seq .l (.seq .l (.seq (.seq .l (.two (.seq .l .l) .l)) (.seq .l .l)))))))

theorem qbl.con {e : List Int} {l : OA} {m : Nat} {r : Bool} {w : World} (z : M.qcr e) (f : r = M.qbl e) (n : Row el5 w l e) (o : e.length ≤ m) :
    Cl 5 #[(sv l e.length m)] w (fun A B => A = (.bool r) ∧ Ext w B) := by
 have H := wp.qbl.math e z
 have a := Ext.refl w
 refine begK mixed Try.f5 ann (vc l e.length m) ?_
 unfold vc
 unfold wp.qbl at H
 obtain ⟨C, D, H⟩ := qap H
 refine (qbP.con D (n.ext a) o).mono ?_
 rintro _ ah ⟨rfl, E⟩
 have a := qam a E
 refine ⟨C, rfl, ?_⟩
 apply brc H<;>intro h H
 ·cases f.trans H.symm
  exact ⟨rfl, a⟩
 obtain ⟨F, H⟩ := H
 obtain ⟨G, I, H⟩ := qap H
 refine (qaD.con F I (n.ext a) o).mono ?_
 rintro _ ai ⟨J, K, rfl, L, N⟩
 have b := L.mono a.size
 have a := qam a N
 refine ⟨J, G.length, K, rfl, ?_⟩
 obtain ⟨O, H⟩ := H
 obtain ⟨P, Q, H⟩ := qap H
 refine (qal.con O Q (n.ext a) o).mono ?_
 rintro _ aj ⟨R, S, rfl, T, q⟩
 have b := b.ext q
 have d := T.mono a.size
 have a := qam a q
 refine ⟨R, P.length, S, rfl, ?_⟩
 obtain ⟨⟨s, t⟩, H⟩ := H
 obtain ⟨U, W, X⟩ := Row.at d.row s t
 refine ⟨s, t, U, W, _, (X 0 _ rfl), ?_⟩
 obtain ⟨Y, H⟩ := H
 refine ⟨Y, ?_⟩
 obtain ⟨Z, H⟩ := H
 obtain ⟨g, a0, H⟩ := qap H
 refine (qaU.con Z a0 b.row b.le).mono ?_
 rintro _ ak ⟨u, v, rfl, P4, p⟩
 have b := b.ext p
 have d := d.ext p
 have c := P4.mono a.size
 have a := qam a p
 refine ⟨(sv u g.1.length v), u, g.1.length, v, rfl, (.bool g.2), g.2, rfl, rfl, ?_⟩
 apply brc H<;>intro h H
 ·cases f.trans H.symm
  exact ⟨rfl, a⟩
 apply brc H<;>intro h H
 ·obtain ⟨a1, H⟩ := H
  obtain ⟨a2, a3, H⟩ := qap H
  refine (qaJ.con a1 a3 c.row c.le).mono ?_
  rintro _ al ⟨rfl, i⟩
  have b := b.ext i
  have d := d.ext i
  have c := c.ext i
  have a := qam a i
  refine ⟨a2, rfl, ?_⟩
  apply brc H<;>intro h H
  ·apply brc H<;>intro h H
   ·obtain ⟨a4, H⟩ := H
    obtain ⟨a5, a6, H⟩ := qap H
    refine (qaP.con a4 a6 c.row c.le).mono ?_
    rintro _ am ⟨rfl, j⟩
    have b := b.ext j
    refine ⟨a5, rfl, ?_⟩
    obtain ⟨a7, H⟩ := H
    obtain ⟨a8, a9, H⟩ := qap H
    refine (qaP.con a7 a9 b.row b.le).mono ?_
    rintro _ an ⟨rfl, k⟩
    have b := b.ext k
    have d := (d.ext j).ext k
    have c := (c.ext j).ext k
    have a := qam (qam a j) k
    refine ⟨a8, rfl, ?_⟩
    apply brc H<;>intro h H
    ·obtain ⟨⟨x, y⟩, H⟩ := H
     obtain ⟨aa, ab, ac⟩ := Row.at d.row x y
     refine ⟨x, y, aa, ab, _, (ac 0 _ rfl), by decide, ?_⟩
     obtain ⟨ad, H⟩ := H
     obtain ⟨ae, af, H⟩ := qap H
     refine (qao.con ad af b.row b.le c.row c.le).mono ?_
     rintro _ ao ⟨rfl, ag⟩
     have a := qam a ag
     refine ⟨ae, rfl, ?_⟩
     cases f.trans H.symm
     exact ⟨rfl, a⟩
    cases f.trans H.symm
    exact ⟨rfl, a⟩
   cases f.trans H.symm
   exact ⟨rfl, a⟩
  cases f.trans H.symm
  exact ⟨rfl, a⟩
 cases f.trans H.symm
 exact ⟨rfl, a⟩
end Go.V
