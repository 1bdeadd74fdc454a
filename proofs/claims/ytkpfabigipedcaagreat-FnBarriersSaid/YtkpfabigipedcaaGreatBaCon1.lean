import Derived.Test.YtkpfabigipedcaaGreatBaMath2
import Derived.Test.YtkpfabigipedcaaGreatBaSeat
import Derived.Test.YtkpfabigipedcaaGreatBaVFoc
namespace Go.V
open Go.Proofs
open IntKind (wrap)
set_option linter.unusedVariables false
set_option linter.unusedSimpArgs false
set_option maxRecDepth 100000
def qah.vc (a b c : Int) (w : World) (K : VK) : Prop :=
  qa1 (decide (a ≥ b)) (K (.bool (decide (a ≤ c))) w) (K (.bool false) w)

def qah.ann : Ann := (.seq .l (.seq .l .l))

theorem qah.con {a b c : Int} {r : Bool} {w : World} (d : r = M.qah a b c)  :
    Cl 78 #[(iv a), (iv b), (iv c)] w (fun f g => f = (.bool r) ∧ Ext w g) := by
 have H := wp.qah.math a b c
 have e := Ext.refl w
 refine begK mixed Tryz.f78 ann (vc a b c) ?_
 unfold vc
 unfold wp.qah at H
 apply brc H<;>intro h H
 ·cases d.trans H.symm
  exact ⟨rfl, e⟩
 cases d.trans H.symm
 exact ⟨rfl, e⟩
def qbn.vc (b : Int) (w : World) (K : VK) : Prop :=
  Cl 78 #[(iv b), (iv 0), (iv 65535)] w fun c d => (∃ (a : Bool), c = (.bool a) ∧ K (.bool a) d)

def qbn.ann : Ann := (.seq .l (.seq .l .l))

theorem qbn.con {a : Int} {r : Bool} {w : World} (b : r = M.qbn a)  :
    Cl 178 #[(iv a)] w (fun c d => c = (.bool r) ∧ Ext w d) := by
 have H := wp.qbn.math a
 refine begK mixed Tryz.f178 ann (vc a) ?_
 unfold vc
 unfold wp.qbn at H
 obtain ⟨e, f, H⟩ := qaf H
 refine (qah.con f ).mono ?_
 rintro _ i ⟨rfl, g⟩
 have h := qac (Ext.refl w) g
 refine ⟨e, rfl, ?_⟩
 cases b.trans H.symm
 exact ⟨rfl, h⟩
def qcv.vc (b : Int) (w : World) (K : VK) : Prop :=
  Cl 78 #[(iv b), (iv 0), (iv 255)] w fun c d => (∃ (a : Bool), c = (.bool a) ∧ K (.bool a) d)

def qcv.ann : Ann := (.seq .l (.seq .l .l))

theorem qcv.con {a : Int} {r : Bool} {w : World} (b : r = M.qcv a)  :
    Cl 179 #[(iv a)] w (fun c d => c = (.bool r) ∧ Ext w d) := by
 have H := wp.qcv.math a
 refine begK mixed Tryz.f179 ann (vc a) ?_
 unfold vc
 unfold wp.qcv at H
 obtain ⟨e, f, H⟩ := qaf H
 refine (qah.con f ).mono ?_
 rintro _ i ⟨rfl, g⟩
 have h := qac (Ext.refl w) g
 refine ⟨e, rfl, ?_⟩
 cases b.trans H.symm
 exact ⟨rfl, h⟩
def qcQ.vc (b : Int) (w : World) (K : VK) : Prop :=
  Cl 78 #[(iv b), (iv 0), (iv 7)] w fun c d => (∃ (a : Bool), c = (.bool a) ∧ K (.bool a) d)

def qcQ.ann : Ann := (.seq .l (.seq .l .l))

theorem qcQ.con {a : Int} {r : Bool} {w : World} (b : r = M.qcQ a)  :
    Cl 186 #[(iv a)] w (fun c d => c = (.bool r) ∧ Ext w d) := by
 have H := wp.qcQ.math a
 refine begK mixed Tryz.f186 ann (vc a) ?_
 unfold vc
 unfold wp.qcQ at H
 obtain ⟨e, f, H⟩ := qaf H
 refine (qah.con f ).mono ?_
 rintro _ i ⟨rfl, g⟩
 have h := qac (Ext.refl w) g
 refine ⟨e, rfl, ?_⟩
 cases b.trans H.symm
 exact ⟨rfl, h⟩
def qce.vc (b a : Int) (w : World) (K : VK) : Prop :=
  Cl 179 #[(iv b)] w fun g c => (∃ (d : Bool), g = (.bool d) ∧ qa1 d (Cl 186 #[(iv a)] c fun h e => (∃ (f : Bool), h = (.bool f) ∧ qa1 f (((0 : Int) ≤ a ∧ K (.bool ((qds .i64 (Int.fdiv b (2 ^ (min (a.toNat) (IntKind.bits .i64)))) 1) == 1)) e)) (K (.bool false) e))) (K (.bool false) c))

def qce.ann : Ann := (.seq .l (.seq .l .l))

theorem qce.con {b c : Int} {r : Bool} {w : World} (d : r = M.qce b c)  :
    Cl 155 #[(iv b), (iv c)] w (fun e f => e = (.bool r) ∧ Ext w f) := by
 have H := wp.qce.math b c
 refine begK mixed Tryz.f155 ann (vc b c) ?_
 unfold vc
 unfold wp.qce at H
 obtain ⟨g, i, H⟩ := qaf H
 refine (qcv.con i ).mono ?_
 rintro _ o ⟨rfl, j⟩
 have a := qac (Ext.refl w) j
 refine ⟨g, rfl, ?_⟩
 apply brc H<;>intro h H
 ·obtain ⟨k, l, H⟩ := qaf H
  refine (qcQ.con l ).mono ?_
  rintro _ p ⟨rfl, m⟩
  have a := qac a m
  refine ⟨k, rfl, ?_⟩
  apply brc H<;>intro h H
  ·obtain ⟨n, H⟩ := H
   refine ⟨n, ?_⟩
   cases d.trans H.symm
   exact ⟨rfl, a⟩
  cases d.trans H.symm
  exact ⟨rfl, a⟩
 cases d.trans H.symm
 exact ⟨rfl, a⟩
def qbM.vc (o : Int) (w : World) (K : VK) : Prop :=
  Run Tryz.prog (Instr.buildSlice 24 0 #[]) w fun p q => ∃ (b : OA) (c d : Nat), p = .slice b c d ∧ qdS (σ := (OA × Nat × Nat) × Int × Unit) (fun a e f => qa1 (decide (a.2.1 < 8)) (Cl 155 #[(iv o), (iv a.2.1)] e fun r g => (∃ (h : Bool), r = (.bool h) ∧ qa1 h (Run Tryz.prog (Instr.buildSlice 24 1 #[(0, (iv a.2.1))]) g fun s t => ∃ (i : OA) (j k : Nat), s = .slice i j k ∧ Run Tryz.prog (Builtin.append_ #[24, 24] 24 #[(sv a.1.1 a.1.2.1 a.1.2.2), (sv i j k)]) t fun u v => ∃ (l : OA) (m n : Nat), u = .slice l m n ∧ f ((l, m, n), (wrap .i64 (a.2.1 + 1)), ()) v) (f ((a.1.1, a.1.2.1, a.1.2.2), (wrap .i64 (a.2.1 + 1)), ()) g))) (K (sv a.1.1 a.1.2.1 a.1.2.2) e)) ((b, c, d), 0, ()) q

def qbM.ann : Ann := (.seq .l (.seq .l (.seq (.seq .l (.one (.loop [(3, .sl), (6, .int .i64)] (.seq .l (.seq (.two .l .l) (.seq (.one (.seq .l (.seq .l (.two .l .l)))) .l)))))) (.seq .l .l))))

theorem qbM.con {g : Int} {r : List Int} {w : World} (p : r = M.qbM g)  :
    Cl 105 #[(iv g)] w (fun q c => ∃ (j : OA) (k : Nat), q = (sv j r.length k) ∧ Own el3 c w.heap.size j k r ∧ Ext w c) := by
 have H := wp.qbM.math g
 have a := Ext.refl w
 refine begK mixed Tryz.f105 ann (vc g) ?_
 unfold vc
 unfold wp.qbM at H
 refine qaY el3 ([] : List Int) (fun _ => by kernel_rfl) rfl (fun s U t u => ?_)
 have v := t.mono a.size
 have a := qac a u
 obtain ⟨x, ⟨y, z⟩, l⟩ := H
 refine ⟨fun A B c => ∃ (d : List Int) (i : Int) (e : OA) (f : Nat), B = ((e, d.length, f), i, ()) ∧ x A (d, i, ()) ∧ Ext w c ∧ Own el3 c w.heap.size e f d, ⟨y, ([] : List Int), 0, s, 0, rfl, z, a, v⟩, ?_⟩
 rintro C _ V ⟨d, i, e, f, rfl, m, a, b⟩
 have H := l C _ m
 clear l m
 try dsimp only at H ⊢
 apply brc H<;>intro h H
 ·obtain ⟨D, E, H⟩ := qaf H
  refine (qce.con E ).mono ?_
  rintro _ W ⟨rfl, n⟩
  have b := b.ext n
  have a := qac a n
  refine ⟨D, rfl, ?_⟩
  apply brc H<;>intro h H
  ·refine qaY el3 ([i] : List Int) (fun _ => by kernel_rfl) rfl (fun X Y F o => ?_)
   have b := b.ext o
   have G := F.mono a.size
   have a := qac a o
   obtain ⟨I, H⟩ := H
   refine appO qgP b G.row a.size I (fun J K Z L N => ?_)
   have a := eapp a N b
   have b := L
   obtain ⟨O, P, Q⟩ := H
   exact ⟨O, P, _, _, J, K, rfl, Q, a, b⟩
  obtain ⟨R, S, T⟩ := H
  exact ⟨R, S, d, _, e, f, rfl, T, a, b⟩
 cases p.trans H.symm
 exact ⟨e, f, rfl, b, a⟩
def qad.vc (f : OA) (c m g : Nat) (h : Array Value) (w : World) (K : VK) : Prop :=
  qdS (σ := Int × Unit) (fun a b i => qa1 (decide (a.1 < ((c : Nat) : Int))) ((idx a.1 c f fun j => ldI b ((j.add ((a.1.toNat) * 1)).add 0) fun k => Cl g (#[(iv k)] ++ h) b fun l d => (∃ (e : Bool), l = (.bool e) ∧ qa1 e (K (iv a.1) d) (i ((wrap .i64 (a.1 + 1)), ()) d)))) (K (iv (-1)) b)) (0, ()) w

def qad.ann : Ann := (.seq .l (.seq (.seq .l (.one (.loop [(8, .int .i64)] (.seq .l (.seq (.two .l .l) (.seq (.one (.seq .l (.seq .l (.two (.seq .l .l) .l)))) .l)))))) (.seq .l .l)))

theorem qad.start {A0 : OA} {n0 c0 f1 : Nat} {cap1 : Array Value} {w : World} {K : Value → World → Prop} (h : qad.vc A0 n0 c0 f1 cap1 w K) : Cl 146 #[(sv A0 n0 c0), (.func (.func f1) #[] cap1)] w K :=
  qdG mixed (fn := Tryz.f146) (by kernel_rfl) (by kernel_rfl) (an := qad.ann) (args := [(sv A0 n0 c0), (.func (.func f1) #[] cap1)]) (Eq.mpr (by kernel_rfl) h)

theorem qad.con {b : List Int} {j : OA} {k l : Nat} {m : Array Value} {d : Int → Bool} {f : Int → Prop} {r : Int} {w : World} (t : M.qcx b d f) (n : r = M.qad b d) (u : Row el3 w j b) (Q : b.length ≤ k) (v : ∀ (g : Int), f g → ∀ c : World, Ext w c → Cl l (#[(iv g)] ++ m) c (fun i x => i = (.bool (d g)) ∧ Ext c x)) :
    Cl 146 #[(sv j b.length k), (.func (.func l) #[] m)] w (fun i c => i = (iv r) ∧ Ext w c) := by
 have H := wp.qad.math b d f t
 have a := Ext.refl w
 refine qad.start ?_
 unfold vc
 unfold wp.qad at H
 obtain ⟨y, ⟨z, A⟩, o⟩ := H
 refine ⟨fun B C c => ∃ (e : Int), C = (e, ()) ∧ y B (e, ()) ∧ Ext w c, ⟨z, 0, rfl, A, a⟩, ?_⟩
 rintro D _ R ⟨e, rfl, p, a⟩
 have H := o D _ p
 clear o p
 try dsimp only at H ⊢
 apply brc H<;>intro h H
 ·obtain ⟨⟨q, s⟩, H⟩ := H
  obtain ⟨E, F, G⟩ := Row.at (u.ext a) q s
  refine ⟨q, s, E, F, _, (G 0 _ rfl), ?_⟩
  obtain ⟨I, H⟩ := H
  obtain ⟨J, K, H⟩ := qaf H
  refine (v (rd b e) I _ a).mono ?_
  rintro _ S ⟨rfl, L⟩
  rw [← K]
  have a := qac a L
  refine ⟨J, rfl, ?_⟩
  apply brc H<;>intro h H
  ·cases n.trans H.symm
   exact ⟨rfl, a⟩
  obtain ⟨N, O, P⟩ := H
  exact ⟨N, O, _, rfl, P, a⟩
 cases n.trans H.symm
 exact ⟨rfl, a⟩
def qa9.vc (b : OA) (c d e : Nat) (f : Array Value) (w : World) (K : VK) : Prop :=
  Cl 146 #[(sv b c d), (.func (.func e) #[] f)] w fun g h => (∃ (a : Int), g = (iv a) ∧ K (.bool (decide (a ≥ 0))) h)

def qa9.ann : Ann := (.seq .l (.seq .l .l))

theorem qa9.start {A0 : OA} {n0 c0 f1 : Nat} {cap1 : Array Value} {w : World} {K : Value → World → Prop} (h : qa9.vc A0 n0 c0 f1 cap1 w K) : Cl 90 #[(sv A0 n0 c0), (.func (.func f1) #[] cap1)] w K :=
  qdG mixed (fn := Tryz.f90) (by kernel_rfl) (by kernel_rfl) (an := qa9.ann) (args := [(sv A0 n0 c0), (.func (.func f1) #[] cap1)]) (Eq.mpr (by kernel_rfl) h)

theorem qa9.con {b : List Int} {h : OA} {i j : Nat} {k : Array Value} {e : Int → Bool} {f : Int → Prop} {r : Bool} {w : World} (l : M.qbe b e f) (m : r = M.qa9 b e) (n : Row el3 w h b) (o : b.length ≤ i) (p : ∀ (c : Int), f c → ∀ a : World, Ext w a → Cl j (#[(iv c)] ++ k) a (fun g q => g = (.bool (e c)) ∧ Ext a q)) :
    Cl 90 #[(sv h b.length i), (.func (.func j) #[] k)] w (fun g a => g = (.bool r) ∧ Ext w a) := by
 have H := wp.qa9.math b e f l
 have d := Ext.refl w
 refine qa9.start ?_
 unfold vc
 unfold wp.qa9 at H
 obtain ⟨s, H⟩ := H
 obtain ⟨t, u, H⟩ := qaf H
 refine (qad.con s u (n.ext d) o (fun c  v a x => p c  v a (qac d x))).mono ?_
 rintro _ z ⟨rfl, y⟩
 have d := qac d y
 refine ⟨t, rfl, ?_⟩
 cases m.trans H.symm
 exact ⟨rfl, d⟩
def qbB.vc (b : Int) (w : World) (K : VK) : Prop :=
  Cl 178 #[(iv b)] w fun c d => (∃ (a : Bool), c = (.bool a) ∧ K (.bool (!a)) d)

def qbB.ann : Ann := (.seq .l (.seq .l .l))

theorem qbB.con {a : Int} {r : Bool} {w : World} (b : r = M.qbB a)  :
    Cl 177 #[(iv a)] w (fun c d => c = (.bool r) ∧ Ext w d) := by
 have H := wp.qbB.math a
 refine begK mixed Tryz.f177 ann (vc a) ?_
 unfold vc
 unfold wp.qbB at H
 obtain ⟨e, f, H⟩ := qaf H
 refine (qbn.con f ).mono ?_
 rintro _ i ⟨rfl, g⟩
 have h := qac (Ext.refl w) g
 refine ⟨e, rfl, ?_⟩
 cases b.trans H.symm
 exact ⟨rfl, h⟩
def qbz.vc (b : OA) (c d : Nat) (w : World) (K : VK) : Prop :=
  Cl 90 #[(sv b c d), (.func (.func 177) #[] #[])] w fun e f => (∃ (a : Bool), e = (.bool a) ∧ K (.bool (!a)) f)

def qbz.ann : Ann := (.seq .l (.seq .l .l))

theorem qbz.con {a : List Int} {c : OA} {d : Nat} {r : Bool} {w : World} (f : M.qe3 a) (g : r = M.qbz a) (h : Row el3 w c a) (i : a.length ≤ d) :
    Cl 136 #[(sv c a.length d)] w (fun j e => j = (.bool r) ∧ Ext w e) := by
 have H := wp.qbz.math a f
 have b := Ext.refl w
 refine begK mixed Tryz.f136 ann (vc c a.length d) ?_
 unfold vc
 unfold wp.qbz at H
 obtain ⟨k, H⟩ := H
 obtain ⟨l, m, H⟩ := qaf H
 refine (qa9.con k m (h.ext b) i (fun o p e q => qhB (l1 := [_]) (l2 := []) (qbB.con rfl))).mono ?_
 rintro _ s ⟨rfl, n⟩
 have b := qac b n
 refine ⟨l, rfl, ?_⟩
 cases g.trans H.symm
 exact ⟨rfl, b⟩
def qch.vc (a : Int) (w : World) (K : VK) : Prop :=
  K (iv (qds .i64 a 65535)) w

def qch.ann : Ann := (.seq .l (.seq .l .l))

theorem qch.con {a r : Int} {w : World} (b : r = M.qch a)  :
    Cl 228 #[(iv a)] w (fun c d => c = (iv r) ∧ Ext w d) := by
 have H := wp.qch.math a
 have e := Ext.refl w
 refine begK mixed Tryz.f228 ann (vc a) ?_
 unfold vc
 unfold wp.qch at H
 cases b.trans H.symm
 exact ⟨rfl, e⟩
def qb9.vc (f g h : Int) (w : World) (K : VK) : Prop :=
  Cl 178 #[(iv f)] w fun i a => (∃ (b : Bool), i = (.bool b) ∧ qa1 (!b) (K (iv 0) a) (Cl 178 #[(iv g)] a fun j c => (∃ (d : Bool), j = (.bool d) ∧ qa1 (!d) (K (iv 0) c) (Cl 228 #[(iv h)] c fun k l => (∃ (e : Int), k = (iv e) ∧ K (iv e) l)))))

def qb9.ann : Ann := (.seq .l (.seq (.seq .l (.two (.seq .l .l) .l)) (.seq .l .l)))

theorem qb9.con {b c d r : Int} {w : World} (e : r = M.qb9 b c d)  :
    Cl 207 #[(iv b), (iv c), (iv d)] w (fun f g => f = (iv r) ∧ Ext w g) := by
 have H := wp.qb9.math b c d
 refine begK mixed Tryz.f207 ann (vc b c d) ?_
 unfold vc
 unfold wp.qb9 at H
 obtain ⟨i, j, H⟩ := qaf H
 refine (qbn.con j ).mono ?_
 rintro _ s ⟨rfl, k⟩
 have a := qac (Ext.refl w) k
 refine ⟨i, rfl, ?_⟩
 apply brc H<;>intro h H
 ·cases e.trans H.symm
  exact ⟨rfl, a⟩
 obtain ⟨l, m, H⟩ := qaf H
 refine (qbn.con m ).mono ?_
 rintro _ t ⟨rfl, n⟩
 have a := qac a n
 refine ⟨l, rfl, ?_⟩
 apply brc H<;>intro h H
 ·cases e.trans H.symm
  exact ⟨rfl, a⟩
 obtain ⟨o, p, H⟩ := qaf H
 refine (qch.con p ).mono ?_
 rintro _ u ⟨rfl, q⟩
 have a := qac a q
 refine ⟨o, rfl, ?_⟩
 cases e.trans H.symm
 exact ⟨rfl, a⟩
def qbG.vc (a b : Int) (w : World) (K : VK) : Prop :=
  Cl 207 #[(iv a), (iv b), (iv (wrap .i64 (a + b)))] w fun d e => (∃ (c : Int), d = (iv c) ∧ K (iv c) e)

def qbG.ann : Ann := (.seq .l (.seq .l .l))

theorem qbG.con {a b r : Int} {w : World} (c : r = M.qbG a b)  :
    Cl 173 #[(iv a), (iv b)] w (fun d e => d = (iv r) ∧ Ext w e) := by
 have H := wp.qbG.math a b
 refine begK mixed Tryz.f173 ann (vc a b) ?_
 unfold vc
 unfold wp.qbG at H
 obtain ⟨f, g, H⟩ := qaf H
 refine (qb9.con g ).mono ?_
 rintro _ j ⟨rfl, h⟩
 have i := qac (Ext.refl w) h
 refine ⟨f, rfl, ?_⟩
 cases c.trans H.symm
 exact ⟨rfl, i⟩
def qag.vc (a : OA) (h i : Nat) (w : World) (K : VK) : Prop :=
  qa1 (Option.isNone a) (K (sv none 0 0) w) (Run Tryz.prog (Instr.buildSlice 24 0 #[]) w fun j k => ∃ (b : OA) (c d : Nat), j = .slice b c d ∧ Run Tryz.prog (Builtin.append_ #[24, 24] 24 #[(sv b c d), (sv a h i)]) k fun l m => ∃ (e : OA) (f g : Nat), l = .slice e f g ∧ K (sv e f g) m)

def qag.ann : Ann := (.seq .l (.seq (.seq .l (.two (.seq .l .l) .l)) (.seq .l .l)))

theorem qag.con {b r : List Int} {c : OA} {e : Nat} {w : World} (n : M.qaE b) (g : r = M.qag b) (i : Row el3 w c b) (z : b.length ≤ e) :
    Cl 128 #[(sv c b.length e)] w (fun o j => ∃ (k : OA) (l : Nat), o = (sv k r.length l) ∧ Own el3 j w.heap.size k l r ∧ Ext w j) := by
 have H := wp.qag.math b n
 have a := Ext.refl w
 refine begK mixed Tryz.f128 ann (vc c b.length e) ?_
 unfold vc
 unfold wp.qag at H
 obtain ⟨p, m⟩ : ∃ q, q = Option.isNone c := ⟨_, rfl⟩
 have H := H p (fun s => Row.isNone (i.ext a) (m.symm.trans s))
 rw [← m]
 apply brc H<;>intro h H
 ·cases g.trans H.symm
  exact ⟨none, 0, rfl, Own.nil, a⟩
 refine qaY el3 ([] : List Int) (fun _ => by kernel_rfl) rfl (fun A B f t => ?_)
 have d := f.mono a.size
 have a := qac a t
 obtain ⟨u, H⟩ := H
 refine appO qgP d (i.ext a) a.size u (fun v x C f y => ?_)
 have a := eapp a y d
 have d := f
 cases g.trans H.symm
 exact ⟨v, x, rfl, d, a⟩
def qcN.vc (a : Int) (w : World) (K : VK) : Prop :=
  Cl 78 #[(iv a), (iv 0), (iv 16)] w fun h b => (∃ (c : Bool), h = (.bool c) ∧ qa1 (!c) (K (.string (⟨#[]⟩)) b) (Run Tryz.prog (Instr.buildSlice 187 17 #[(0, (.string (⟨#[45, 45, 45]⟩))), (1, (.string (⟨#[82, 87, 45]⟩))), (2, (.string (⟨#[82, 82, 45]⟩))), (3, (.string (⟨#[82, 82, 82]⟩))), (4, (.string (⟨#[82, 82, 82]⟩))), (5, (.string (⟨#[82, 82, 82]⟩))), (6, (.string (⟨#[82, 82, 82]⟩))), (7, (.string (⟨#[82, 82, 82]⟩))), (8, (.string (⟨#[82, 45, 45]⟩))), (9, (.string (⟨#[82, 82, 82]⟩))), (10, (.string (⟨#[82, 84, 45]⟩))), (11, (.string (⟨#[45, 84, 45]⟩))), (12, (.string (⟨#[45, 45, 45]⟩))), (13, (.string (⟨#[82, 82, 45]⟩))), (14, (.string (⟨#[82, 82, 45]⟩))), (15, (.string (⟨#[82, 82, 45]⟩))), (16, (.string (⟨#[45, 45, 45]⟩)))]) b fun i d => ∃ (e : OA) (f j : Nat), i = .slice e f j ∧ (idx a f e fun k => ∃ (g : ByteArray), d.cell? ((k.add ((a.toNat) * 1)).add 0) = some (.string g) ∧ K (.string g) d)))

def qcN.ann : Ann := (.seq .l (.seq (.seq .l (.two (.seq .l .l) .l)) (.seq .l .l)))

theorem qcN.con {b : Int} {r : ByteArray} {w : World} (d : r = M.qcN b)  :
    Cl 175 #[(iv b)] w (fun f g => f = (.string r) ∧ Ext w g) := by
 have H := wp.qcN.math b
 refine begK mixed Tryz.f175 ann (vc b) ?_
 unfold vc
 unfold wp.qcN at H
 obtain ⟨i, j, H⟩ := qaf H
 refine (qah.con j ).mono ?_
 rintro _ s ⟨rfl, k⟩
 have a := qac (Ext.refl w) k
 refine ⟨i, rfl, ?_⟩
 apply brc H<;>intro h H
 ·cases d.trans H.symm
  exact ⟨rfl, a⟩
 refine qaY el9 ([⟨#[45, 45, 45]⟩, ⟨#[82, 87, 45]⟩, ⟨#[82, 82, 45]⟩, ⟨#[82, 82, 82]⟩, ⟨#[82, 82, 82]⟩, ⟨#[82, 82, 82]⟩, ⟨#[82, 82, 82]⟩, ⟨#[82, 82, 82]⟩, ⟨#[82, 45, 45]⟩, ⟨#[82, 82, 82]⟩, ⟨#[82, 84, 45]⟩, ⟨#[45, 84, 45]⟩, ⟨#[45, 45, 45]⟩, ⟨#[82, 82, 45]⟩, ⟨#[82, 82, 45]⟩, ⟨#[82, 82, 45]⟩, ⟨#[45, 45, 45]⟩] : List ByteArray) (fun _ => by kernel_rfl) rfl (fun t u l m => ?_)
 have n := l.mono a.size
 have a := qac a m
 obtain ⟨⟨e, c⟩, H⟩ := H
 obtain ⟨o, p, q⟩ := Row.at n.row e c
 refine ⟨e, (by first | exact c | omega | (simp at c ⊢; omega)), o, p, _, (q 0 _ rfl), ?_⟩
 cases d.trans H.symm
 exact ⟨rfl, a⟩
def qd0.vc (b : Int) (w : World) (K : VK) : Prop :=
  Cl 78 #[(iv b), (iv 0), (iv 3)] w fun c d => (∃ (a : Bool), c = (.bool a) ∧ K (.bool a) d)

def qd0.ann : Ann := (.seq .l (.seq .l .l))

theorem qd0.con {a : Int} {r : Bool} {w : World} (b : r = M.qd0 a)  :
    Cl 208 #[(iv a)] w (fun c d => c = (.bool r) ∧ Ext w d) := by
 have H := wp.qd0.math a
 refine begK mixed Tryz.f208 ann (vc a) ?_
 unfold vc
 unfold wp.qd0 at H
 obtain ⟨e, f, H⟩ := qaf H
 refine (qah.con f ).mono ?_
 rintro _ i ⟨rfl, g⟩
 have h := qac (Ext.refl w) g
 refine ⟨e, rfl, ?_⟩
 cases b.trans H.symm
 exact ⟨rfl, h⟩
def qav.vc (b a f : Int) (w : World) (K : VK) : Prop :=
  qa1 (b == 82) (Cl 208 #[(iv a)] w fun g h => (∃ (c : Bool), g = (.bool c) ∧ K (.bool c) h)) (qa1 (b == 87) (Cl 178 #[(iv a)] w fun i j => (∃ (d : Bool), i = (.bool d) ∧ K (.bool d) j)) (qa1 (b == 84) (Cl 78 #[(iv a), (iv 0), (iv f)] w fun k l => (∃ (e : Bool), k = (.bool e) ∧ K (.bool e) l)) (K (.bool (a == 0)) w)))

def qav.ann : Ann := (.seq .l (.seq (.seq .l (.one (.seq .l (.two (.seq .l .l) (.seq .l (.two (.seq .l .l) (.seq .l (.two (.seq .l .l) .l)))))))) (.seq .l .l)))

theorem qav.con {b c d : Int} {r : Bool} {w : World} (f : M.qcE b c d) (e : r = M.qav b c d)  :
    Cl 176 #[(.int .u8 b), (iv c), (iv d)] w (fun g i => g = (.bool r) ∧ Ext w i) := by
 have H := wp.qav.math b c d f
 have a := Ext.refl w
 refine begK mixed Tryz.f176 ann (vc b c d) ?_
 unfold vc
 unfold wp.qav at H
 apply brc H<;>intro h H
 ·obtain ⟨j, k, H⟩ := qaf H
  refine (qd0.con k ).mono ?_
  rintro _ t ⟨rfl, l⟩
  have a := qac a l
  refine ⟨j, rfl, ?_⟩
  cases e.trans H.symm
  exact ⟨rfl, a⟩
 apply brc H<;>intro h H
 ·obtain ⟨m, n, H⟩ := qaf H
  refine (qbn.con n ).mono ?_
  rintro _ u ⟨rfl, o⟩
  have a := qac a o
  refine ⟨m, rfl, ?_⟩
  cases e.trans H.symm
  exact ⟨rfl, a⟩
 apply brc H<;>intro h H
 ·obtain ⟨p, q, H⟩ := qaf H
  refine (qah.con q ).mono ?_
  rintro _ v ⟨rfl, s⟩
  have a := qac a s
  refine ⟨p, rfl, ?_⟩
  cases e.trans H.symm
  exact ⟨rfl, a⟩
 cases e.trans H.symm
 exact ⟨rfl, a⟩
def qaN.vc (p q r s b : Int) (w : World) (K : VK) : Prop :=
  newK w (.cells #[(iv p), (iv q), (iv r), (iv s)] 84) fun c g => ldI g (((bx c).add 0).add 0) fun t => Cl 175 #[(iv t)] g fun u h => (∃ (a : ByteArray), u = (.string a) ∧ qa1 (!(ByteArray.toList a == ByteArray.toList (⟨#[]⟩))) (((Cl 78 #[(iv b), (iv 0), (iv 32)] h.drew fun v d => (∃ (i : Bool), v = (.bool i) ∧ qa1 i (((0 : Int) ≤ 0 ∧ ∃ j : UInt8, (a : ByteArray)[((0 : Int).toNat)]? = some j ∧ ((ldI d (((bx c).add 1).add 0) fun x => ((Cl 176 #[(.int .u8 ((j.toNat : Nat) : Int)), (iv x), (iv b)] d fun y e => (∃ (k : Bool), y = (.bool k) ∧ qa1 k (((0 : Int) ≤ 1 ∧ ∃ l : UInt8, (a : ByteArray)[((1 : Int).toNat)]? = some l ∧ ((ldI e (((bx c).add 2).add 0) fun z => ((Cl 176 #[(.int .u8 ((l.toNat : Nat) : Int)), (iv z), (iv b)] e fun A f => (∃ (m : Bool), A = (.bool m) ∧ qa1 m (((0 : Int) ≤ 2 ∧ ∃ n : UInt8, (a : ByteArray)[((2 : Int).toNat)]? = some n ∧ ((ldI f (((bx c).add 3).add 0) fun B => ((Cl 176 #[(.int .u8 ((n.toNat : Nat) : Int)), (iv B), (iv b)] f fun C D => (∃ (o : Bool), C = (.bool o) ∧ K (.bool o) D)) ∧ True)) ∧ True))) (((((K (.bool false) f) ∧ True)) ∧ True)))) ∧ True)) ∧ True))) (((((((((K (.bool false) e) ∧ True)) ∧ True)) ∧ True)) ∧ True)))) ∧ True)) ∧ True))) (((((((((((((K (.bool false) d) ∧ True)) ∧ True)) ∧ True)) ∧ True)) ∧ True)) ∧ True)))) ∧ True)) (((((((((((((((K (.bool false) h.drew) ∧ True)) ∧ True)) ∧ True)) ∧ True)) ∧ True)) ∧ True)) ∧ True)))

def qaN.ann : Ann := (.seq .l (.seq .l (.seq .each .l)))

theorem qaN.con {d : D.Ins} {f : Int} {r : Bool} {w : World} (e : r = M.qaN d f)  :
    Cl 135 #[(.agg (iC d)), (iv f)] w (fun o p => o = (.bool r) ∧ Ext w p) := by
 have H := wp.qaN.math d f
 refine begK mixed Tryz.f135 ann (vc d.Op d.A d.B d.C f) ?_
 unfold vc
 unfold wp.qaN at H
 refine qbx (fun Z a0 L1 c q => ?_)
 refine ⟨_, (c.a 0), ?_⟩
 obtain ⟨s, t, H⟩ := qaf H
 refine (qcN.con t ).mono ?_
 rintro _ a1 ⟨rfl, g⟩
 refine ⟨s, rfl, ?_⟩
 have c := (c.ext g).ext (Ext.drew _)
 have b := qac (qac (qac (Ext.refl w) q) g) (Ext.drew _)
 apply brc H<;>intro h H
 ·refine qcn ?_
  obtain ⟨u, v, H⟩ := qaf H
  refine (qah.con v ).mono ?_
  rintro _ a2 ⟨rfl, i⟩
  have c := c.ext i
  have b := qac b i
  refine ⟨u, rfl, ?_⟩
  apply brc H<;>intro h H
  ·obtain ⟨⟨j, x⟩, H⟩ := H
   obtain ⟨y, z, E⟩ := qmx j x
   refine ⟨j, y, z, ?_⟩
   rw [E]
   refine qcn ?_
   refine ⟨_, (c.a 1), ?_⟩
   refine qcn ?_
   obtain ⟨F, H⟩ := H
   obtain ⟨G, I, H⟩ := qaf H
   refine (qav.con F I ).mono ?_
   rintro _ a3 ⟨rfl, k⟩
   have c := c.ext k
   have b := qac b k
   refine ⟨G, rfl, ?_⟩
   apply brc H<;>intro h H
   ·obtain ⟨⟨l, J⟩, H⟩ := H
    obtain ⟨K, L, N⟩ := qmx l J
    refine ⟨l, K, L, ?_⟩
    rw [N]
    refine qcn ?_
    refine ⟨_, (c.a 2), ?_⟩
    refine qcn ?_
    obtain ⟨O, H⟩ := H
    obtain ⟨P, Q, H⟩ := qaf H
    refine (qav.con O Q ).mono ?_
    rintro _ a4 ⟨rfl, m⟩
    have c := c.ext m
    have b := qac b m
    refine ⟨P, rfl, ?_⟩
    apply brc H<;>intro h H
    ·obtain ⟨⟨n, R⟩, H⟩ := H
     obtain ⟨S, T, U⟩ := qmx n R
     refine ⟨n, S, T, ?_⟩
     rw [U]
     refine qcn ?_
     refine ⟨_, (c.a 3), ?_⟩
     refine qcn ?_
     obtain ⟨V, H⟩ := H
     obtain ⟨W, X, H⟩ := qaf H
     refine (qav.con V X ).mono ?_
     rintro _ a5 ⟨rfl, Y⟩
     have b := qac b Y
     refine ⟨W, rfl, ?_⟩
     cases e.trans H.symm
     exact ⟨rfl, b⟩
    refine qcn ?_
    refine qcn ?_
    cases e.trans H.symm
    exact ⟨rfl, b⟩
   refine qcn ?_
   refine qcn ?_
   refine qcn ?_
   refine qcn ?_
   cases e.trans H.symm
   exact ⟨rfl, b⟩
  refine qcn ?_
  refine qcn ?_
  refine qcn ?_
  refine qcn ?_
  refine qcn ?_
  refine qcn ?_
  cases e.trans H.symm
  exact ⟨rfl, b⟩
 refine qcn ?_
 refine qcn ?_
 refine qcn ?_
 refine qcn ?_
 refine qcn ?_
 refine qcn ?_
 refine qcn ?_
 cases e.trans H.symm
 exact ⟨rfl, b⟩
def qbl.vc (d e f g : Int) (h : Addr) (w : World) (K : VK) : Prop :=
  newK w (.cells #[(iv d), (iv e), (iv f), (iv g)] 84) fun b a => ldI a ((bx b).add 0) fun i => ldI a ((bx b).add 1) fun j => ldI a ((bx b).add 2) fun k => ldI a ((bx b).add 3) fun l => ldS a (h.add 0) fun p m q => Cl 135 #[(.agg #[(iv i), (iv j), (iv k), (iv l)]), (iv ((m : Nat) : Int))] a fun n o => (∃ (c : Bool), n = (.bool c) ∧ K (.bool (!c)) o)

def qbl.ann : Ann := (.seq .l (.seq .l .l))

theorem qbl.con {b : D.Ins} {c : List D.Ins} {e g : Nat} {h : OA} {r : Bool} {w : World} (j : r = M.qbl b c) (f : Blk w e 30 #[(sv h c.length g)]) (q : Row el84 w h c) (s : c.length ≤ g) :
    Cl 134 #[(.agg (iC b)), (.pointer (some (bx e)))] w (fun k l => k = (.bool r) ∧ Ext w l) := by
 have H := wp.qbl.math b c
 refine begK mixed Tryz.f134 ann (vc b.Op b.A b.B b.C (bx e)) ?_
 unfold vc
 unfold wp.qbl at H
 refine qbx (fun t u v d i => ?_)
 have f := f.ext i
 refine ⟨_, (d.a 0), _, (d.a 1), _, (d.a 2), _, (d.a 3), _, _, _, (f.a 0), ?_⟩
 obtain ⟨m, n, H⟩ := qaf H
 refine (qaN.con n ).mono ?_
 rintro _ x ⟨rfl, o⟩
 have p := qac (qac (Ext.refl w) i) o
 refine ⟨m, rfl, ?_⟩
 cases j.trans H.symm
 exact ⟨rfl, p⟩
def qa7.vc (g : OA) (d p h : Nat) (i : Array Value) (w : World) (K : VK) : Prop :=
  qdS (σ := Int × Unit) (fun a b j => qa1 (decide (a.1 < ((d : Nat) : Int))) ((idx a.1 d g fun c => ldI b ((c.add ((a.1.toNat) * 4)).add 0) fun k => ldI b ((c.add ((a.1.toNat) * 4)).add 1) fun l => ldI b ((c.add ((a.1.toNat) * 4)).add 2) fun m => ldI b ((c.add ((a.1.toNat) * 4)).add 3) fun n => Cl h (#[(.agg #[(iv k), (iv l), (iv m), (iv n)])] ++ i) b fun o e => (∃ (f : Bool), o = (.bool f) ∧ qa1 f (K (iv a.1) e) (j ((wrap .i64 (a.1 + 1)), ()) e)))) (K (iv (-1)) b)) (0, ()) w

def qa7.ann : Ann := (.seq .l (.seq (.seq .l (.one (.loop [(8, .int .i64)] (.seq .l (.seq (.two .l .l) (.seq (.one (.seq .l (.seq .l (.two (.seq .l .l) .l)))) .l)))))) (.seq .l .l)))

theorem qa7.start {A0 : OA} {n0 c0 f1 : Nat} {cap1 : Array Value} {w : World} {K : Value → World → Prop} (h : qa7.vc A0 n0 c0 f1 cap1 w K) : Cl 174 #[(sv A0 n0 c0), (.func (.func f1) #[] cap1)] w K :=
  qdG mixed (fn := Tryz.f174) (by kernel_rfl) (by kernel_rfl) (an := qa7.ann) (args := [(sv A0 n0 c0), (.func (.func f1) #[] cap1)]) (Eq.mpr (by kernel_rfl) h)

theorem qa7.con {b : List D.Ins} {k : OA} {l m : Nat} {n : Array Value} {d : D.Ins → Bool} {g : D.Ins → Prop} {r : Int} {w : World} (u : M.qci b d g) (o : r = M.qa7 b d) (v : Row el84 w k b) (R : b.length ≤ l) (x : ∀ (i : D.Ins), g i → ∀ c : World, Ext w c → Cl m (#[(.agg (iC i))] ++ n) c (fun j y => j = (.bool (d i)) ∧ Ext c y)) :
    Cl 174 #[(sv k b.length l), (.func (.func m) #[] n)] w (fun j c => j = (iv r) ∧ Ext w c) := by
 have H := wp.qa7.math b d g u
 have a := Ext.refl w
 refine qa7.start ?_
 unfold vc
 unfold wp.qa7 at H
 obtain ⟨z, ⟨A, B⟩, p⟩ := H
 refine ⟨fun C E c => ∃ (e : Int), E = (e, ()) ∧ z C (e, ()) ∧ Ext w c, ⟨A, 0, rfl, B, a⟩, ?_⟩
 rintro F _ S ⟨e, rfl, q, a⟩
 have H := p F _ q
 clear p q
 try dsimp only at H ⊢
 apply brc H<;>intro h H
 ·obtain ⟨⟨s, t⟩, H⟩ := H
  obtain ⟨G, I, f⟩ := Row.at (v.ext a) s t
  refine ⟨s, t, G, I, _, (f 0 _ rfl), _, (f 1 _ rfl), _, (f 2 _ rfl), _, (f 3 _ rfl), ?_⟩
  obtain ⟨J, H⟩ := H
  obtain ⟨K, L, H⟩ := qaf H
  refine (x (rd b e) J _ a).mono ?_
  rintro _ T ⟨rfl, N⟩
  rw [← L]
  have a := qac a N
  refine ⟨K, rfl, ?_⟩
  apply brc H<;>intro h H
  ·cases o.trans H.symm
   exact ⟨rfl, a⟩
  obtain ⟨O, P, Q⟩ := H
  exact ⟨O, P, _, rfl, Q, a⟩
 cases o.trans H.symm
 exact ⟨rfl, a⟩
def qa8.vc (b : OA) (c d e : Nat) (f : Array Value) (w : World) (K : VK) : Prop :=
  Cl 174 #[(sv b c d), (.func (.func e) #[] f)] w fun g h => (∃ (a : Int), g = (iv a) ∧ K (.bool (decide (a ≥ 0))) h)

def qa8.ann : Ann := (.seq .l (.seq .l .l))

theorem qa8.start {A0 : OA} {n0 c0 f1 : Nat} {cap1 : Array Value} {w : World} {K : Value → World → Prop} (h : qa8.vc A0 n0 c0 f1 cap1 w K) : Cl 133 #[(sv A0 n0 c0), (.func (.func f1) #[] cap1)] w K :=
  qdG mixed (fn := Tryz.f133) (by kernel_rfl) (by kernel_rfl) (an := qa8.ann) (args := [(sv A0 n0 c0), (.func (.func f1) #[] cap1)]) (Eq.mpr (by kernel_rfl) h)

theorem qa8.con {b : List D.Ins} {h : OA} {i j : Nat} {k : Array Value} {e : D.Ins → Bool} {f : D.Ins → Prop} {r : Bool} {w : World} (l : M.qbX b e f) (m : r = M.qa8 b e) (n : Row el84 w h b) (o : b.length ≤ i) (p : ∀ (c : D.Ins), f c → ∀ a : World, Ext w a → Cl j (#[(.agg (iC c))] ++ k) a (fun g q => g = (.bool (e c)) ∧ Ext a q)) :
    Cl 133 #[(sv h b.length i), (.func (.func j) #[] k)] w (fun g a => g = (.bool r) ∧ Ext w a) := by
 have H := wp.qa8.math b e f l
 have d := Ext.refl w
 refine qa8.start ?_
 unfold vc
 unfold wp.qa8 at H
 obtain ⟨s, H⟩ := H
 obtain ⟨t, u, H⟩ := qaf H
 refine (qa7.con s u (n.ext d) o (fun c  v a x => p c  v a (qac d x))).mono ?_
 rintro _ z ⟨rfl, y⟩
 have d := qac d y
 refine ⟨t, rfl, ?_⟩
 cases m.trans H.symm
 exact ⟨rfl, d⟩
def qaD.vc (d : OA) (e f : Nat) (w : World) (K : VK) : Prop :=
  newK w (.cells #[(sv d e f)] 30) fun b a => ldS a ((bx b).add 0) fun m g n => qa1 (decide (((g : Nat) : Int) ≤ 32)) (ldS a ((bx b).add 0) fun h i j => Cl 133 #[(sv h i j), (.func (.func 134) #[] #[(.pointer (some (bx b)))])] a fun k l => (∃ (c : Bool), k = (.bool c) ∧ K (.bool (!c)) l)) (K (.bool false) a)

def qaD.ann : Ann := (.seq .l (.seq .l .l))

theorem qaD.con {b : List D.Ins} {d : OA} {e : Nat} {r : Bool} {w : World} (m : M.qcB b) (g : r = M.qaD b) (i : Row el84 w d b) (j : b.length ≤ e) :
    Cl 75 #[(sv d b.length e)] w (fun n k => n = (.bool r) ∧ Ext w k) := by
 have H := wp.qaD.math b m
 refine begK mixed Tryz.f75 ann (vc d b.length e) ?_
 unfold vc
 unfold wp.qaD at H
 refine qbx (fun u v x f o => ?_)
 have c := qac (Ext.refl w) o
 refine ⟨_, _, _, (f.a 0), ?_⟩
 apply brc H<;>intro h H
 ·refine ⟨_, _, _, (f.a 0), ?_⟩
  obtain ⟨p, H⟩ := H
  obtain ⟨q, s, H⟩ := qaf H
  refine (qa8.con p s (i.ext c) j (fun y z k l => qhB (l1 := [_]) (l2 := [_]) (qbl.con rfl (f.ext l) (i.ext (qac c l)) j))).mono ?_
  rintro _ A ⟨rfl, t⟩
  have c := qac c t
  refine ⟨q, rfl, ?_⟩
  cases g.trans H.symm
  exact ⟨rfl, c⟩
 cases g.trans H.symm
 exact ⟨rfl, c⟩
def qbU.vc (c d e f : Int) (w : World) (K : VK) : Prop :=
  newK w (.cells #[(iv c), (iv d), (iv e), (iv f)] 84) fun g a => ldI a (((bx g).add 0).add 0) fun h => Cl 78 #[(iv h), (iv 0), (iv 12)] a fun i j => (∃ (b : Bool), i = (.bool b) ∧ K (.bool b) j)

def qbU.ann : Ann := (.seq .l (.seq .l .l))

theorem qbU.con {b : D.Ins} {r : Bool} {w : World} (c : r = M.qbU b)  :
    Cl 121 #[(.agg (iC b))] w (fun d e => d = (.bool r) ∧ Ext w e) := by
 have H := wp.qbU.math b
 refine begK mixed Tryz.f121 ann (vc b.Op b.A b.B b.C) ?_
 unfold vc
 unfold wp.qbU at H
 refine qbx (fun l m n f g => ?_)
 refine ⟨_, (f.a 0), ?_⟩
 obtain ⟨h, i, H⟩ := qaf H
 refine (qah.con i ).mono ?_
 rintro _ o ⟨rfl, j⟩
 have k := qac (qac (Ext.refl w) g) j
 refine ⟨h, rfl, ?_⟩
 cases c.trans H.symm
 exact ⟨rfl, k⟩
def qc7.vc (a b : Int) (w : World) (K : VK) : Prop :=
  Cl 207 #[(iv a), (iv b), (iv (wrap .i64 (a - b)))] w fun d e => (∃ (c : Int), d = (iv c) ∧ K (iv c) e)

def qc7.ann : Ann := (.seq .l (.seq .l .l))

theorem qc7.con {a b r : Int} {w : World} (c : r = M.qc7 a b)  :
    Cl 225 #[(iv a), (iv b)] w (fun d e => d = (iv r) ∧ Ext w e) := by
 have H := wp.qc7.math a b
 refine begK mixed Tryz.f225 ann (vc a b) ?_
 unfold vc
 unfold wp.qc7 at H
 obtain ⟨f, g, H⟩ := qaf H
 refine (qb9.con g ).mono ?_
 rintro _ j ⟨rfl, h⟩
 have i := qac (Ext.refl w) h
 refine ⟨f, rfl, ?_⟩
 cases c.trans H.symm
 exact ⟨rfl, i⟩
def qbY.vc (a b : Int) (w : World) (K : VK) : Prop :=
  Cl 207 #[(iv a), (iv b), (iv (wrap .i64 (a * b)))] w fun d e => (∃ (c : Int), d = (iv c) ∧ K (iv c) e)

def qbY.ann : Ann := (.seq .l (.seq .l .l))

theorem qbY.con {a b r : Int} {w : World} (c : r = M.qbY a b)  :
    Cl 226 #[(iv a), (iv b)] w (fun d e => d = (iv r) ∧ Ext w e) := by
 have H := wp.qbY.math a b
 refine begK mixed Tryz.f226 ann (vc a b) ?_
 unfold vc
 unfold wp.qbY at H
 obtain ⟨f, g, H⟩ := qaf H
 refine (qb9.con g ).mono ?_
 rintro _ j ⟨rfl, h⟩
 have i := qac (Ext.refl w) h
 refine ⟨f, rfl, ?_⟩
 cases c.trans H.symm
 exact ⟨rfl, i⟩
def qbT.vc (b c : Int) (w : World) (K : VK) : Prop :=
  Cl 178 #[(iv b)] w fun g d => (∃ (e : Bool), g = (.bool e) ∧ qa1 e (Cl 178 #[(iv c)] d fun h a => (∃ (f : Bool), h = (.bool f) ∧ qa1 f (qa1 (decide (b < c)) (K (iv 1) a) (K (iv 0) a)) (K (iv 0) a))) (K (iv 0) d))

def qbT.ann : Ann := (.seq .l (.seq (.seq .l (.two (.seq .l .l) .l)) (.seq .l .l)))

theorem qbT.con {b c r : Int} {w : World} (d : r = M.qbT b c)  :
    Cl 227 #[(iv b), (iv c)] w (fun e f => e = (iv r) ∧ Ext w f) := by
 have H := wp.qbT.math b c
 refine begK mixed Tryz.f227 ann (vc b c) ?_
 unfold vc
 unfold wp.qbT at H
 obtain ⟨g, i, H⟩ := qaf H
 refine (qbn.con i ).mono ?_
 rintro _ n ⟨rfl, j⟩
 have a := qac (Ext.refl w) j
 refine ⟨g, rfl, ?_⟩
 apply brc H<;>intro h H
 ·obtain ⟨k, l, H⟩ := qaf H
  refine (qbn.con l ).mono ?_
  rintro _ o ⟨rfl, m⟩
  have a := qac a m
  refine ⟨k, rfl, ?_⟩
  apply brc H<;>intro h H
  ·apply brc H<;>intro h H
   ·cases d.trans H.symm
    exact ⟨rfl, a⟩
   cases d.trans H.symm
   exact ⟨rfl, a⟩
  cases d.trans H.symm
  exact ⟨rfl, a⟩
 cases d.trans H.symm
 exact ⟨rfl, a⟩
def qbf.vc (b : Int) (w : World) (K : VK) : Prop :=
  Cl 78 #[(iv b), (iv 0), (iv 2)] w fun c d => (∃ (a : Bool), c = (.bool a) ∧ K (.bool a) d)

def qbf.ann : Ann := (.seq .l (.seq .l .l))

theorem qbf.con {a : Int} {r : Bool} {w : World} (b : r = M.qbf a)  :
    Cl 137 #[(iv a)] w (fun c d => c = (.bool r) ∧ Ext w d) := by
 have H := wp.qbf.math a
 refine begK mixed Tryz.f137 ann (vc a) ?_
 unfold vc
 unfold wp.qbf at H
 obtain ⟨e, f, H⟩ := qaf H
 refine (qah.con f ).mono ?_
 rintro _ i ⟨rfl, g⟩
 have h := qac (Ext.refl w) g
 refine ⟨e, rfl, ?_⟩
 cases b.trans H.symm
 exact ⟨rfl, h⟩
def qaG.vc (d : OA) (c i : Nat) (e : Int) (w : World) (K : VK) : Prop :=
  qdS (σ := Int × Unit) (fun a b f => qa1 (decide (a.1 < ((c : Nat) : Int))) ((idx a.1 c d fun g => ldI b ((g.add ((a.1.toNat) * 1)).add 0) fun h => qa1 (e == h) (K (iv a.1) b) (f ((wrap .i64 (a.1 + 1)), ()) b))) (K (iv (-1)) b)) (0, ()) w

def qaG.ann : Ann := (.seq .l (.seq (.seq .l (.one (.loop [(8, .int .i64)] (.seq .l (.seq (.two .l .l) (.seq (.one (.seq .l (.seq .l (.two (.seq .l .l) .l)))) .l)))))) (.seq .l .l)))

theorem qaG.con {a : List Int} {d : OA} {e : Nat} {c r : Int} {w : World} (n : M.qdt a c) (i : r = M.qaG a c) (o : Row el3 w d a) (E : a.length ≤ e) :
    Cl 210 #[(sv d a.length e), (iv c)] w (fun p f => p = (iv r) ∧ Ext w f) := by
 have H := wp.qaG.math a c n
 have b := Ext.refl w
 refine begK mixed Tryz.f210 ann (vc d a.length e c) ?_
 unfold vc
 unfold wp.qaG at H
 obtain ⟨q, ⟨s, t⟩, j⟩ := H
 refine ⟨fun u v f => ∃ (g : Int), v = (g, ()) ∧ q u (g, ()) ∧ Ext w f, ⟨s, 0, rfl, t, b⟩, ?_⟩
 rintro x _ F ⟨g, rfl, k, b⟩
 have H := j x _ k
 clear j k
 try dsimp only at H ⊢
 apply brc H<;>intro h H
 ·obtain ⟨⟨l, m⟩, H⟩ := H
  obtain ⟨y, z, A⟩ := Row.at (o.ext b) l m
  refine ⟨l, m, y, z, _, (A 0 _ rfl), ?_⟩
  apply brc H<;>intro h H
  ·cases i.trans H.symm
   exact ⟨rfl, b⟩
  obtain ⟨B, C, D⟩ := H
  exact ⟨B, C, _, rfl, D, b⟩
 cases i.trans H.symm
 exact ⟨rfl, b⟩
def qaL.vc (b : OA) (c d : Nat) (e : Int) (w : World) (K : VK) : Prop :=
  Cl 210 #[(sv b c d), (iv e)] w fun f g => (∃ (a : Int), f = (iv a) ∧ K (.bool (decide (a ≥ 0))) g)

def qaL.ann : Ann := (.seq .l (.seq .l .l))

theorem qaL.con {a : List Int} {d : OA} {e : Nat} {b : Int} {r : Bool} {w : World} (f : M.qd3 a b) (g : r = M.qaL a b) (h : Row el3 w d a) (i : a.length ≤ e) :
    Cl 182 #[(sv d a.length e), (iv b)] w (fun j k => j = (.bool r) ∧ Ext w k) := by
 have H := wp.qaL.math a b f
 have c := Ext.refl w
 refine begK mixed Tryz.f182 ann (vc d a.length e b) ?_
 unfold vc
 unfold wp.qaL at H
 obtain ⟨l, H⟩ := H
 obtain ⟨m, n, H⟩ := qaf H
 refine (qaG.con l n (h.ext c) i).mono ?_
 rintro _ p ⟨rfl, o⟩
 have c := qac c o
 refine ⟨m, rfl, ?_⟩
 cases g.trans H.symm
 exact ⟨rfl, c⟩
def qaM.vc (d : OA) (b e : Nat) (w : World) (K : VK) : Prop :=
  qdS (σ := Int × Int × Unit) (fun a c g => qa1 (decide (a.2.1 < ((b : Nat) : Int))) (qa1 (decide (a.2.1 < 4000)) ((idx a.2.1 b d fun h => ∃ (f : Int), c.cell? ((h.add ((a.2.1.toNat) * 1)).add 0) = some (.int .u8 f) ∧ g ((qds .i64 (wrap .i64 ((wrap .i64 ((wrap .i64 (a.1 * 131)) + (wrap .i64 f))) + 7)) 1073741823), (wrap .i64 (a.2.1 + 1)), ()) c)) (newK c (.cells #[(sv d b e), (iv 0), (iv a.1)] 129) fun i j => K (.pointer (some (bx i))) j)) (newK c (.cells #[(sv d b e), (iv 0), (iv a.1)] 129) fun k l => K (.pointer (some (bx k))) l)) ((wrap .i64 (98561 + ((b : Nat) : Int))), 0, ()) w

def qaM.ann : Ann := (.seq .l (.seq .l (.seq (.seq .l (.one (.loop [(3, .int .i64), (4, .int .i64)] (.seq (.seq .l (.two .l .l)) (.seq (.one .l) .l))))) (.seq .l .l))))

theorem qaM.con {c : List Int} {d : OA} {e : Nat} {r : D.Cur} {w : World} (t : M.qez c) (n : r = M.qaM c) (u : Row el5 w d c) (S : c.length ≤ e) :
    Cl 59 #[(sv d c.length e)] w (fun v f => ∃ (g : Nat), v = (.pointer (some (bx g))) ∧ Blk f g 129 #[(sv d r.b.length e), (iv r.i), (iv r.h)] ∧ r.b = c ∧ w.heap.size ≤ g ∧ Ext w f) := by
 have H := wp.qaM.math c t
 have a := Ext.refl w
 refine begK mixed Tryz.f59 ann (vc d c.length e) ?_
 unfold vc
 unfold wp.qaM at H
 obtain ⟨x, ⟨y, z⟩, o⟩ := H
 refine ⟨fun A B f => ∃ (j k : Int), B = (j, k, ()) ∧ x A (j, k, ()) ∧ Ext w f, ⟨y, (wrap .i64 (98561 + (c.length : Int))), 0, rfl, z, a⟩, ?_⟩
 rintro C _ T ⟨j, k, rfl, p, a⟩
 have H := o C _ p
 clear o p
 try dsimp only at H ⊢
 apply brc H<;>intro h H
 ·apply brc H<;>intro h H
  ·obtain ⟨⟨q, s⟩, H⟩ := H
   obtain ⟨E, F, G⟩ := Row.at (u.ext a) q s
   refine ⟨q, s, E, F, _, (G 0 _ rfl), ?_⟩
   obtain ⟨I, J, K⟩ := H
   exact ⟨I, J, _, _, rfl, K, a⟩
  refine qbx (fun L U l N O => ?_)
  have l := Nat.le_trans a.size l
  have a := qac a O
  cases n.trans H.symm
  exact ⟨L, rfl, N, rfl, l, a⟩
 refine qbx (fun P V m Q R => ?_)
 have m := Nat.le_trans a.size m
 have a := qac a R
 cases n.trans H.symm
 exact ⟨P, rfl, Q, rfl, m, a⟩
def qab.vc (a : Addr) (w : World) (K : VK) : Prop :=
  ldI w ((a.add 2).add 0) fun l => qae (a.add 2) [(iv (wrap .i64 ((wrap .i64 (l * 6364136223846793005)) + 1442695040888963407)))] 0 w fun b => ldI b ((a.add 2).add 0) fun d => ((0 : Int) ≤ 33 ∧ ldI b ((a.add 2).add 0) fun e => ((0 : Int) ≤ 45 ∧ ∃ (f : Int), b.drew.cell? ((a.add 1).add 0) = some (iv f) ∧ ∃ (m : OA) (g n : Nat), b.drew.cell? ((a.add 0).add 0) = some (sv m g n) ∧ qa1 (decide (f < ((g : Nat) : Int))) (∃ (h : OA) (i o : Nat), b.drew.drew.cell? ((a.add 0).add 0) = some (sv h i o) ∧ ∃ (c : Int), b.drew.drew.cell? ((a.add 1).add 0) = some (iv c) ∧ (idx c i h fun p => ∃ (j : Int), b.drew.drew.cell? ((p.add ((c.toNat) * 1)).add 0) = some (.int .u8 j) ∧ ∃ (k : Int), b.drew.drew.drew.cell? ((a.add 1).add 0) = some (iv k) ∧ qae (a.add 1) [(iv (wrap .i64 (k + 1)))] 0 b.drew.drew.drew fun q => K (iv (qds .i64 (wrap .i64 ((qds .i64 (qg8 .i64 (Int.fdiv d (2 ^ (min ((33 : Int).toNat) (IntKind.bits .i64)))) (Int.fdiv e (2 ^ (min ((45 : Int).toNat) (IntKind.bits .i64))))) 255) + (wrap .i64 j))) 255)) q)) (K (iv (qds .i64 (qg8 .i64 (Int.fdiv d (2 ^ (min ((33 : Int).toNat) (IntKind.bits .i64)))) (Int.fdiv e (2 ^ (min ((45 : Int).toNat) (IntKind.bits .i64))))) 255)) b.drew.drew)))

def qab.ann : Ann := (.seq .l (.seq .l (.seq .l (.seq (.seq .l (.two (.seq .l .l) .l)) (.seq .l .l)))))

theorem qab.con {d : D.Cur} {e j : Nat} {f : OA} {r : Int × D.Cur} {w : World} (s : M.qcT d) (m : r = M.qab d) (c : Blk w e 129 #[(sv f d.b.length j), (iv d.i), (iv d.h)]) (t : Row el5 w f d.b) (E : d.b.length ≤ j) (u : d.b ≠ [] → ∀ g, InB f g → ¬ (fun k => k = e) g) :
    Cl 126 #[(.pointer (some (bx e)))] w (fun v n => v = (iv r.1) ∧ Blk n e 129 #[(sv f r.2.b.length j), (iv r.2.i), (iv r.2.h)] ∧ r.2.b = d.b ∧ Chg (fun k => k = e) w n) := by
 have H := wp.qab.math d s
 refine begK mixed Tryz.f126 ann (vc (bx e)) ?_
 unfold vc
 unfold wp.qab at H
 refine ⟨_, (c.a 2), ?_⟩
 refine stB c 2 #[(sv f d.b.length j), (iv d.i), (iv (wrap .i64 ((wrap .i64 (d.h * 6364136223846793005)) + 1442695040888963407)))] (fun F x y => ?_)
 have c := x
 refine ⟨_, (c.a 2), by decide, _, (c.a 2), by decide, ?_⟩
 have c := c.ext (Ext.drew _)
 refine ⟨_, (c.a 1), _, _, _, (c.a 0), ?_⟩
 have c := c.ext (Ext.drew _)
 have l := (((Chg.refl (fun k => k = e) w).chgb y (Or.inr rfl)).then (Ext.drew _)).then (Ext.drew _)
 apply brc H<;>intro h H
 ·refine ⟨_, _, _, (c.a 0), _, (c.a 1), ?_⟩
  obtain ⟨⟨p, q⟩, H⟩ := H
  obtain ⟨z, A, B⟩ := Row.at (t.chgS l u) p q
  refine ⟨p, q, z, A, _, (B 0 _ rfl), ?_⟩
  have c := c.ext (Ext.drew _)
  refine ⟨_, (c.a 1), ?_⟩
  refine qd9 c (o := 1) (cs' := #[(sv f d.b.length j), (iv (wrap .i64 (d.i + 1))), (iv (wrap .i64 ((wrap .i64 (d.h * 6364136223846793005)) + 1442695040888963407)))]) rfl rfl (Nat.le_of_ble_eq_true rfl) rfl (fun G c C => ?_)
  have l := (l.then (Ext.drew _)).chgb C (Or.inr rfl)
  cases m.trans H.symm
  exact ⟨rfl, c, rfl, l⟩
 cases m.trans H.symm
 exact ⟨rfl, c, rfl, l⟩
def qa0.vc (b : Addr) (a : Int) (w : World) (K : VK) : Prop :=
  qa1 (decide (a ≤ 0)) (K (iv 0) w) (qa1 (decide (a ≤ 256)) (Cl 126 #[(.pointer (some b))] w fun h i => (∃ (c : Int), h = (iv c) ∧ ((a : Int) ≠ 0 ∧ K (iv (Int.tmod c a)) i))) (Cl 126 #[(.pointer (some b))] w fun j k => (∃ (d : Int), j = (iv d) ∧ Cl 126 #[(.pointer (some b))] k fun l m => (∃ (e : Int), l = (iv e) ∧ Cl 126 #[(.pointer (some b))] m fun n o => (∃ (f : Int), n = (iv f) ∧ Cl 126 #[(.pointer (some b))] o fun p q => (∃ (g : Int), p = (iv g) ∧ ((a : Int) ≠ 0 ∧ K (iv (Int.tmod (wrap .i64 ((wrap .i64 ((wrap .i64 ((wrap .i64 (d * 16777216)) + (wrap .i64 (e * 65536)))) + (wrap .i64 (f * 256)))) + g)) a)) q)))))))

def qa0.ann : Ann := (.seq .l (.seq (.seq .l (.two (.seq .l .l) .l)) (.seq (.seq .l (.two (.seq .l .l) .l)) (.seq .l (.seq .l (.seq .l (.seq .l (.seq .l .l))))))))

theorem qa0.con {f : D.Cur} {m t : Nat} {s : OA} {n : Int} {r : Int × D.Cur} {w : World} (x : M.qau f n) (u : r = M.qa0 f n) (e : Blk w m 129 #[(sv s f.b.length t), (iv f.i), (iv f.h)]) (o : Row el5 w s f.b) (p : f.b.length ≤ t) (j : f.b ≠ [] → ∀ g, InB s g → ¬ (fun q => q = m) g) :
    Cl 67 #[(.pointer (some (bx m))), (iv n)] w (fun y v => y = (iv r.1) ∧ Blk v m 129 #[(sv s r.2.b.length t), (iv r.2.i), (iv r.2.h)] ∧ r.2.b = f.b ∧ Chg (fun q => q = m) w v) := by
 have H := wp.qa0.math f n x
 have c := Chg.refl (fun q => q = m) w
 refine begK mixed Tryz.f67 ann (vc (bx m) n) ?_
 unfold vc
 unfold wp.qa0 at H
 apply brc H<;>intro h H
 ·cases u.trans H.symm
  exact ⟨rfl, e, rfl, c⟩
 apply brc H<;>intro h H
 ·obtain ⟨z, H⟩ := H
  obtain ⟨A, B, H⟩ := qaf H
  refine (qab.con z B e (o.chgS c j) p (fun k => (fun g a l => j k g a l))).mono ?_
  rintro _ a3 ⟨rfl, d, C, E⟩
  simp only [bC, wC, C] at d
  have c := c.chg E (fun g a => Or.inr a)
  have e := d
  refine ⟨A.1, rfl, ?_⟩
  obtain ⟨F, H⟩ := H
  refine ⟨F, ?_⟩
  cases u.trans H.symm
  exact ⟨rfl, e, rfl, c⟩
 obtain ⟨G, H⟩ := H
 obtain ⟨I, J, H⟩ := qaf H
 refine (qab.con G J e (o.chgS c j) p (fun k => (fun g a l => j k g a l))).mono ?_
 rintro _ a4 ⟨rfl, d, K, L⟩
 simp only [bC, wC, K] at d
 have c := c.chg L (fun g a => Or.inr a)
 have e := d
 refine ⟨I.1, rfl, ?_⟩
 obtain ⟨N, H⟩ := H
 obtain ⟨O, P, H⟩ := qaf H
 refine (qab.con N P e (o.chgS c j) p (fun k => (fun g a l => j k g a l))).mono ?_
 rintro _ a5 ⟨rfl, d, Q, R⟩
 simp only [bC, wC, Q] at d
 have c := c.chg R (fun g a => Or.inr a)
 have e := d
 refine ⟨O.1, rfl, ?_⟩
 obtain ⟨S, H⟩ := H
 obtain ⟨T, U, H⟩ := qaf H
 refine (qab.con S U e (o.chgS c j) p (fun k => (fun g a l => j k g a l))).mono ?_
 rintro _ a6 ⟨rfl, d, V, W⟩
 simp only [bC, wC, V] at d
 have c := c.chg W (fun g a => Or.inr a)
 have e := d
 refine ⟨T.1, rfl, ?_⟩
 obtain ⟨X, H⟩ := H
 obtain ⟨Y, Z, H⟩ := qaf H
 refine (qab.con X Z e (o.chgS c j) p (fun k => (fun g a l => j k g a l))).mono ?_
 rintro _ a7 ⟨rfl, d, a0, a1⟩
 simp only [bC, wC, a0] at d
 have c := c.chg a1 (fun g a => Or.inr a)
 have e := d
 refine ⟨Y.1, rfl, ?_⟩
 obtain ⟨a2, H⟩ := H
 refine ⟨a2, ?_⟩
 cases u.trans H.symm
 exact ⟨rfl, e, rfl, c⟩
def qap.vc (d : Addr) (e : OA) (b i : Nat) (w : World) (K : VK) : Prop :=
  Cl 67 #[(.pointer (some d)), (iv ((b : Nat) : Int))] w fun f c => (∃ (a : Int), f = (iv a) ∧ (idx a b e fun g => ldI c ((g.add ((a.toNat) * 1)).add 0) fun h => K (iv h) c))

def qap.ann : Ann := (.seq .l (.seq .l .l))

theorem qap.con {a : D.Cur} {c l m : Nat} {j k : OA} {d : List Int} {r : Int × D.Cur} {w : World} (v : M.qdE a d) (x : r = M.qap a d) (n : Blk w c 129 #[(sv j a.b.length l), (iv a.i), (iv a.h)]) (y : Row el5 w j a.b) (z : a.b.length ≤ l) (A : Row el3 w k d) (Q : d.length ≤ m) (p : a.b ≠ [] → ∀ g, InB j g → ¬ (fun e => e = c) g) (B : d ≠ [] → ∀ g, InB k g → ¬ (fun e => e = c) g) :
    Cl 140 #[(.pointer (some (bx c))), (sv k d.length m)] w (fun C q => C = (iv r.1) ∧ Blk q c 129 #[(sv j r.2.b.length l), (iv r.2.i), (iv r.2.h)] ∧ r.2.b = a.b ∧ Chg (fun e => e = c) w q) := by
 have H := wp.qap.math a d v
 have f := Chg.refl (fun e => e = c) w
 refine begK mixed Tryz.f140 ann (vc (bx c) k d.length m) ?_
 unfold vc
 unfold wp.qap at H
 obtain ⟨E, H⟩ := H
 obtain ⟨F, G, H⟩ := qaf H
 refine (qa0.con E G n (y.chgS f p) z (fun I => (fun g o J => p I g o J))).mono ?_
 rintro _ R ⟨rfl, s, K, L⟩
 simp only [bC, wC, K] at s
 have f := f.chg L (fun g o => Or.inr o)
 have n := s
 refine ⟨F.1, rfl, ?_⟩
 obtain ⟨⟨t, u⟩, H⟩ := H
 obtain ⟨N, O, P⟩ := Row.at (A.chgS f B) t u
 refine ⟨t, u, N, O, _, (P 0 _ rfl), ?_⟩
 cases x.trans H.symm
 exact ⟨rfl, n, rfl, f⟩
def qaq.vc (d : Addr) (w : World) (K : VK) : Prop :=
  newK w (.cells #[(iv 0), (iv 0), (iv 0), (iv 0)] 84) fun b s => Cl 67 #[(.pointer (some d)), (iv 9)] s fun t u => (∃ (m : Int), t = (iv m) ∧ Cl 67 #[(.pointer (some d)), (iv 4)] u fun v x => (∃ (n : Int), v = (iv n) ∧ newK x (.cells #[(iv 0), (iv 0), (iv 0), (iv 0)] 84) fun a y => qae (bx a) [(iv (wrap .i64 (1 + m))), (iv n), (iv 0), (iv 0)] 0 y fun c => ldI c (((bx a).add 0).add 0) fun l => qa1 (l == 1) (Cl 67 #[(.pointer (some d)), (iv 6)] c fun z A => (∃ (o : Int), z = (iv o) ∧ qae ((bx a).add 2) [(iv o)] 0 A fun e => ldI e ((bx a).add 0) fun B => ldI e ((bx a).add 1) fun C => ldI e ((bx a).add 2) fun D => ldI e ((bx a).add 3) fun E => qae (bx b) [(iv B), (iv C), (iv D), (iv E)] 0 e fun f => ldI f ((bx b).add 0) fun F => ldI f ((bx b).add 1) fun G => ldI f ((bx b).add 2) fun H => ldI f ((bx b).add 3) fun I => K (.agg #[(iv F), (iv G), (iv H), (iv I)]) f)) (qa1 (l == 8) (ldI c ((bx a).add 0) fun J => ldI c ((bx a).add 1) fun L => ldI c ((bx a).add 2) fun M => ldI c ((bx a).add 3) fun N => qae (bx b) [(iv J), (iv L), (iv M), (iv N)] 0 c fun g => ldI g ((bx b).add 0) fun O => ldI g ((bx b).add 1) fun P => ldI g ((bx b).add 2) fun Q => ldI g ((bx b).add 3) fun R => K (.agg #[(iv O), (iv P), (iv Q), (iv R)]) g) (qa1 (l == 2) (Cl 67 #[(.pointer (some d)), (iv 4)] c fun S T => (∃ (p : Int), S = (iv p) ∧ qae ((bx a).add 2) [(iv p)] 0 T fun h => ldI h ((bx a).add 0) fun U => ldI h ((bx a).add 1) fun V => ldI h ((bx a).add 2) fun W => ldI h ((bx a).add 3) fun X => qae (bx b) [(iv U), (iv V), (iv W), (iv X)] 0 h fun i => ldI i ((bx b).add 0) fun Y => ldI i ((bx b).add 1) fun Z => ldI i ((bx b).add 2) fun a0 => ldI i ((bx b).add 3) fun a1 => K (.agg #[(iv Y), (iv Z), (iv a0), (iv a1)]) i)) (Cl 67 #[(.pointer (some d)), (iv 4)] c fun a2 a3 => (∃ (q : Int), a2 = (iv q) ∧ qae ((bx a).add 2) [(iv q)] 0 a3 fun a4 => Cl 67 #[(.pointer (some d)), (iv 4)] a4 fun a5 a6 => (∃ (r : Int), a5 = (iv r) ∧ qae ((bx a).add 3) [(iv r)] 0 a6 fun j => ldI j ((bx a).add 0) fun a7 => ldI j ((bx a).add 1) fun a8 => ldI j ((bx a).add 2) fun a9 => ldI j ((bx a).add 3) fun aa => qae (bx b) [(iv a7), (iv a8), (iv a9), (iv aa)] 0 j fun k => ldI k ((bx b).add 0) fun ab => ldI k ((bx b).add 1) fun ac => ldI k ((bx b).add 2) fun ad => ldI k ((bx b).add 3) fun ae => K (.agg #[(iv ab), (iv ac), (iv ad), (iv ae)]) k)))))))

def qaq.ann : Ann := (.seq .l (.seq .l (.seq (.seq .l (.one (.seq .l (.two .l (.seq .l (.two .l (.seq .l (.two .l (.seq .l .l))))))))) (.seq .l .l))))

theorem qaq.con {p : D.Cur} {y K : Nat} {G : OA} {r : D.Ins × D.Cur} {w : World} (hp : M.qe1 p) (I : r = M.qaq p) (d : Blk w y 129 #[(sv G p.b.length K), (iv p.i), (iv p.h)]) (A : Row el5 w G p.b) (B : p.b.length ≤ K) (l : p.b ≠ [] → ∀ g, InB G g → ¬ (fun C => C = y) g) :
    Cl 143 #[(.pointer (some (bx y)))] w (fun v_ w_ => v_ = (.agg (iC r.1)) ∧ Blk w_ y 129 #[(sv G r.2.b.length K), (iv r.2.i), (iv r.2.h)] ∧ r.2.b = p.b ∧ Chg (fun C => C = y) w w_) := by
 have H := wp.qaq.math p hp
 have f := Chg.refl (fun C => C = y) w
 refine begK mixed Tryz.f143 ann (vc (bx y)) ?_
 unfold vc
 unfold wp.qaq at H
 refine qbx (fun ap aq z P3 a0 => ?_)
 have q := d.ne z
 have d := d.ext a0
 have z := Nat.le_trans f.size z
 have f := f.then a0
 obtain ⟨a7, H⟩ := H
 obtain ⟨s, a8, H⟩ := qaf H
 refine (qa0.con a7 a8 d (A.chgS f l) B (fun m => (fun g j n => l m g j n))).mono ?_
 rintro _ ar ⟨rfl, k, a9, a1⟩
 simp only [bC, wC, a9] at k
 have f := f.chg a1 (fun g j => Or.inr j)
 have d := k
 refine ⟨s.1, rfl, ?_⟩
 obtain ⟨aa, H⟩ := H
 obtain ⟨t, ab, H⟩ := qaf H
 refine (qa0.con aa ab d (A.chgS f l) B (fun m => (fun g j n => l m g j n))).mono ?_
 rintro _ au ⟨rfl, k, ac, a2⟩
 simp only [bC, wC, ac] at k
 have c := (P3.chgS a1 ((q).symm)).chgS a2 ((q).symm)
 have f := f.chg a2 (fun g j => Or.inr j)
 have d := k
 refine ⟨t.1, rfl, ?_⟩
 refine qbx (fun av aw u E L => ?_)
 have v := d.ne u
 have F := c.ne u
 have d := d.ext L
 have c := c.ext L
 have e := E
 have u := Nat.le_trans f.size u
 refine stB e 0 #[(iv (wrap .i64 (1 + s.1))), (iv t.1), (iv 0), (iv 0)] (fun ax E N => ?_)
 have x := d.chg N v
 have O := c.chg N F
 have d := x
 have c := O
 have f := (f.then L).chgb N (Or.inl u)
 have e := E
 refine ⟨_, (e.a 0), ?_⟩
 apply brc H<;>intro h H
 ·obtain ⟨ad, H⟩ := H
  obtain ⟨P, ae, H⟩ := qaf H
  refine (qa0.con ad ae d (A.chgS f l) B (fun m => (fun g j n => l m g j n))).mono ?_
  rintro _ ay ⟨rfl, k, af, Q⟩
  simp only [bC, wC, af] at k
  have e := e.chgS Q ((v).symm)
  have d := k
  refine ⟨P.1, rfl, ?_⟩
  refine qd9 e (o := 2) (cs' := #[(iv (wrap .i64 (1 + s.1))), (iv t.1), (iv P.1), (iv 0)]) rfl rfl (Nat.le_of_ble_eq_true rfl) rfl (fun az e R => ?_)
  have x := d.chg R v
  have c := (c.chgS Q ((q).symm)).chg R F
  refine ⟨_, (e.a 0), _, (e.a 1), _, (e.a 2), _, (e.a 3), ?_⟩
  refine qd9 c (o := 0) (cs' := #[(iv (wrap .i64 (1 + s.1))), (iv t.1), (iv P.1), (iv 0)]) rfl rfl (Nat.le_of_ble_eq_true rfl) rfl (fun aA c a3 => ?_)
  have d := x.chg a3 q
  have f := ((f.chg Q (fun g j => Or.inr j)).chgb R (Or.inl u)).chgb a3 (Or.inl z)
  refine ⟨_, (c.a 0), _, (c.a 1), _, (c.a 2), _, (c.a 3), ?_⟩
  cases I.trans H.symm
  exact ⟨rfl, d, rfl, f⟩
 apply brc H<;>intro h H
 ·refine ⟨_, (e.a 0), _, (e.a 1), _, (e.a 2), _, (e.a 3), ?_⟩
  refine qd9 c (o := 0) (cs' := #[(iv (wrap .i64 (1 + s.1))), (iv t.1), (iv 0), (iv 0)]) rfl rfl (Nat.le_of_ble_eq_true rfl) rfl (fun aB c a4 => ?_)
  have d := d.chg a4 q
  have f := f.chgb a4 (Or.inl z)
  refine ⟨_, (c.a 0), _, (c.a 1), _, (c.a 2), _, (c.a 3), ?_⟩
  cases I.trans H.symm
  exact ⟨rfl, d, rfl, f⟩
 apply brc H<;>intro h H
 ·obtain ⟨ag, H⟩ := H
  obtain ⟨S, ah, H⟩ := qaf H
  refine (qa0.con ag ah d (A.chgS f l) B (fun m => (fun g j n => l m g j n))).mono ?_
  rintro _ aC ⟨rfl, k, ai, T⟩
  simp only [bC, wC, ai] at k
  have e := e.chgS T ((v).symm)
  have d := k
  refine ⟨S.1, rfl, ?_⟩
  refine qd9 e (o := 2) (cs' := #[(iv (wrap .i64 (1 + s.1))), (iv t.1), (iv S.1), (iv 0)]) rfl rfl (Nat.le_of_ble_eq_true rfl) rfl (fun aD e U => ?_)
  have x := d.chg U v
  have c := (c.chgS T ((q).symm)).chg U F
  refine ⟨_, (e.a 0), _, (e.a 1), _, (e.a 2), _, (e.a 3), ?_⟩
  refine qd9 c (o := 0) (cs' := #[(iv (wrap .i64 (1 + s.1))), (iv t.1), (iv S.1), (iv 0)]) rfl rfl (Nat.le_of_ble_eq_true rfl) rfl (fun aE c a5 => ?_)
  have d := x.chg a5 q
  have f := ((f.chg T (fun g j => Or.inr j)).chgb U (Or.inl u)).chgb a5 (Or.inl z)
  refine ⟨_, (c.a 0), _, (c.a 1), _, (c.a 2), _, (c.a 3), ?_⟩
  cases I.trans H.symm
  exact ⟨rfl, d, rfl, f⟩
 obtain ⟨aj, H⟩ := H
 obtain ⟨J, ak, H⟩ := qaf H
 refine (qa0.con aj ak d (A.chgS f l) B (fun m => (fun g j n => l m g j n))).mono ?_
 rintro _ w64 ⟨rfl, k, al, V⟩
 simp only [bC, wC, al] at k
 have c := c.chgS V ((q).symm)
 have e := e.chgS V ((v).symm)
 have d := k
 refine ⟨J.1, rfl, ?_⟩
 refine stB e 2 #[(iv (wrap .i64 (1 + s.1))), (iv t.1), (iv J.1), (iv 0)] (fun aF E W => ?_)
 have x := d.chg W v
 have O := c.chg W F
 have d := x
 have f := (f.chg V (fun g j => Or.inr j)).chgb W (Or.inl u)
 obtain ⟨am, H⟩ := H
 obtain ⟨X, an, H⟩ := qaf H
 refine (qa0.con am an d (A.chgS f l) B (fun m => (fun g j n => l m g j n))).mono ?_
 rintro _ aG ⟨rfl, k, ao, Y⟩
 simp only [bC, wC, ao] at k
 have e := E.chgS Y ((v).symm)
 have d := k
 refine ⟨X.1, rfl, ?_⟩
 refine qd9 e (o := 3) (cs' := #[(iv (wrap .i64 (1 + s.1))), (iv t.1), (iv J.1), (iv X.1)]) rfl rfl (Nat.le_of_ble_eq_true rfl) rfl (fun aH e Z => ?_)
 have x := d.chg Z v
 have c := (O.chgS Y ((q).symm)).chg Z F
 refine ⟨_, (e.a 0), _, (e.a 1), _, (e.a 2), _, (e.a 3), ?_⟩
 refine qd9 c (o := 0) (cs' := #[(iv (wrap .i64 (1 + s.1))), (iv t.1), (iv J.1), (iv X.1)]) rfl rfl (Nat.le_of_ble_eq_true rfl) rfl (fun aI c a6 => ?_)
 have d := x.chg a6 q
 have f := ((f.chg Y (fun g j => Or.inr j)).chgb Z (Or.inl u)).chgb a6 (Or.inl z)
 refine ⟨_, (c.a 0), _, (c.a 1), _, (c.a 2), _, (c.a 3), ?_⟩
 cases I.trans H.symm
 exact ⟨rfl, d, rfl, f⟩
def qb2.vc (n : OA) (o p : Nat) (w : World) (K : VK) : Prop :=
  Cl 59 #[(sv n o p)] w fun q r => (∃ (b : Addr), q = (.pointer (some b)) ∧ Run Tryz.prog (Instr.buildSlice 24 0 #[]) r fun s t => ∃ (c : OA) (d e : Nat), s = .slice c d e ∧ qdS (σ := (OA × Nat × Nat) × Int × Unit) (fun a f u => qa1 (decide (a.2.1 < 12)) (Cl 67 #[(.pointer (some b)), (iv 10000)] f fun v x => (∃ (g : Int), v = (iv g) ∧ Run Tryz.prog (Instr.buildSlice 24 1 #[(0, (iv g))]) x fun y z => ∃ (h : OA) (i j : Nat), y = .slice h i j ∧ Run Tryz.prog (Builtin.append_ #[24, 24] 24 #[(sv a.1.1 a.1.2.1 a.1.2.2), (sv h i j)]) z fun A B => ∃ (k : OA) (l m : Nat), A = .slice k l m ∧ u ((k, l, m), (wrap .i64 (a.2.1 + 1)), ()) B)) (K (sv a.1.1 a.1.2.1 a.1.2.2) f)) ((c, d, e), 0, ()) t)

def qb2.ann : Ann := (.seq .l (.seq .l (.seq .l (.seq (.seq .l (.one (.loop [(4, .sl), (5, .int .i64)] (.seq (.seq .l (.two .l .l)) (.seq (.one .l) .l))))) (.seq .l .l)))))

theorem qb2.con {d r : List Int} {f : OA} {j : Nat} {w : World} (I : M.qei d) (J : r = M.qb2 d) (o : Row el5 w f d) (u : d.length ≤ j) :
    Cl 27 #[(sv f d.length j)] w (fun K e => ∃ (v : OA) (x : Nat), K = (sv v r.length x) ∧ Own el3 e w.heap.size v x r ∧ Ext w e) := by
 have H := wp.qb2.math d I
 have a := Ext.refl w
 refine begK mixed Tryz.f27 ann (vc f d.length j) ?_
 unfold vc
 unfold wp.qb2 at H
 obtain ⟨L, H⟩ := H
 obtain ⟨y, N, H⟩ := qaf H
 refine (qaM.con L N (o.ext a) u).mono ?_
 rintro _ aa ⟨z, rfl, b, O, k, P⟩
 simp only [bC, wC, O] at b
 have k := Nat.le_trans a.size k
 have a := qac a P
 refine ⟨(bx z), rfl, ?_⟩
 refine qaY el3 ([] : List Int) (fun _ => by kernel_rfl) rfl (fun Q ab R A => ?_)
 have b := b.ext A
 have S := R.mono a.size
 have a := qac a A
 obtain ⟨T, ⟨U, V⟩, B⟩ := H
 refine ⟨fun W X e => ∃ (l : List Int) (p q s : Int) (m : OA) (n : Nat), X = ((m, l.length, n), p, ()) ∧ T W (l, p, q, s, ()) ∧ Ext w e ∧ Own el3 e w.heap.size m n l ∧ Blk e z 129 #[(sv f d.length j), (iv q), (iv s)], ⟨U, ([] : List Int), 0, y.i, y.h, Q, 0, rfl, V, a, S, b⟩, ?_⟩
 rintro Y _ ac ⟨l, p, q, s, m, n, rfl, C, a, c, b⟩
 have H := B Y _ C
 clear B C
 try dsimp only at H ⊢
 apply brc H<;>intro h H
 ·obtain ⟨Z, H⟩ := H
  obtain ⟨D, a0, H⟩ := qaf H
  refine (qa0.con Z a0 b (o.ext a) u (fun a1 => (fun g h_ a2 => Nat.not_le.2 (o.old a1 g h_) (qfH k _ a2)))).mono ?_
  rintro _ ad ⟨rfl, E, a3, F⟩
  simp only [bC, wC, a3] at E
  have c := c.chgS F (qcG (c.qa6 b (by decide)))
  have a := Chg.ext a F (qfH k)
  refine ⟨D.1, rfl, ?_⟩
  refine qaY el3 ([D.1] : List Int) (fun _ => by kernel_rfl) rfl (fun ae af P7 t => ?_)
  have b := E.ext t
  have c := c.ext t
  have O7 := P7.mono a.size
  have a := qac a t
  obtain ⟨a4, H⟩ := H
  refine appO qgP c O7.row a.size a4 (fun a5 a6 ag P6 G => ?_)
  have b := b.app G (c.qa6 b (by decide))
  have a := eapp a G c
  have c := P6
  obtain ⟨a7, a8, a9⟩ := H
  exact ⟨a7, a8, _, _, _, _, a5, a6, rfl, a9, a, c, b⟩
 cases J.trans H.symm
 exact ⟨m, n, rfl, c, a⟩
def qeh.vc (b : OA) (a c : Nat) (w : World) (K : VK) : Prop :=
  K (.bool (decide (((a : Nat) : Int) > 1048576))) w

def qeh.ann : Ann := (.seq .l (.seq .l .l))

theorem qeh.con {a : List Int} {b : OA} {c : Nat} {r : Bool} {w : World} (d : r = M.qeh a) (h : Row el5 w b a) (i : a.length ≤ c) :
    Cl 18 #[(sv b a.length c)] w (fun e f => e = (.bool r) ∧ Ext w f) := by
 have H := wp.qeh.math a
 have g := Ext.refl w
 refine begK mixed Tryz.f18 ann (vc b a.length c) ?_
 unfold vc
 unfold wp.qeh at H
 cases d.trans H.symm
 exact ⟨rfl, g⟩
def qaW.vc (b : Int) (w : World) (K : VK) : Prop :=
  Cl 78 #[(iv b), (iv 1), (iv 3)] w fun c d => (∃ (a : Bool), c = (.bool a) ∧ K (.bool a) d)

def qaW.ann : Ann := (.seq .l (.seq .l .l))

theorem qaW.con {a : Int} {r : Bool} {w : World} (b : r = M.qaW a)  :
    Cl 76 #[(iv a)] w (fun c d => c = (.bool r) ∧ Ext w d) := by
 have H := wp.qaW.math a
 refine begK mixed Tryz.f76 ann (vc a) ?_
 unfold vc
 unfold wp.qaW at H
 obtain ⟨e, f, H⟩ := qaf H
 refine (qah.con f ).mono ?_
 rintro _ i ⟨rfl, g⟩
 have h := qac (Ext.refl w) g
 refine ⟨e, rfl, ?_⟩
 cases b.trans H.symm
 exact ⟨rfl, h⟩
def qbo.vc (c : OA) (a d : Nat) (w : World) (K : VK) : Prop :=
  qa1 (((a : Nat) : Int) == 32) (Cl 136 #[(sv c a d)] w fun e f => (∃ (b : Bool), e = (.bool b) ∧ K (.bool b) f)) (K (.bool false) w)

def qbo.ann : Ann := (.seq .l (.seq .l .l))

theorem qbo.con {a : List Int} {c : OA} {d : Nat} {r : Bool} {w : World} (f : M.qf1 a) (e : r = M.qbo a) (g : Row el3 w c a) (i : a.length ≤ d) :
    Cl 77 #[(sv c a.length d)] w (fun j k => j = (.bool r) ∧ Ext w k) := by
 have H := wp.qbo.math a f
 have b := Ext.refl w
 refine begK mixed Tryz.f77 ann (vc c a.length d) ?_
 unfold vc
 unfold wp.qbo at H
 apply brc H<;>intro h H
 ·obtain ⟨l, H⟩ := H
  obtain ⟨m, n, H⟩ := qaf H
  refine (qbz.con l n (g.ext b) i).mono ?_
  rintro _ p ⟨rfl, o⟩
  have b := qac b o
  refine ⟨m, rfl, ?_⟩
  cases e.trans H.symm
  exact ⟨rfl, b⟩
 cases e.trans H.symm
 exact ⟨rfl, b⟩
def qbK.vc (b : OA) (a c : Nat) (w : World) (K : VK) : Prop :=
  K (.bool (((a : Nat) : Int) == 32)) w

def qbK.ann : Ann := (.seq .l (.seq .l .l))

theorem qbK.con {a : List Int} {b : OA} {c : Nat} {r : Bool} {w : World} (d : r = M.qbK a) (h : Row el3 w b a) (i : a.length ≤ c) :
    Cl 138 #[(sv b a.length c)] w (fun e f => e = (.bool r) ∧ Ext w f) := by
 have H := wp.qbK.math a
 have g := Ext.refl w
 refine begK mixed Tryz.f138 ann (vc b a.length c) ?_
 unfold vc
 unfold wp.qbK at H
 cases d.trans H.symm
 exact ⟨rfl, g⟩
def qbD.vc (f : OA) (a Q : Nat) (g : Int) (w : World) (K : VK) : Prop :=
  qdS (σ := Int × Unit) (fun d c r => qa1 (decide (d.1 < ((a : Nat) : Int))) ((idx d.1 a f fun j => ldI c ((j.add ((d.1.toNat) * 3)).add 0) fun s => ldI c ((j.add ((d.1.toNat) * 3)).add 1) fun t => ldI c ((j.add ((d.1.toNat) * 3)).add 2) fun u => newK c (.cells #[(iv 0), (iv 0), (iv 0)] 91) fun e v => qae (bx e) [(iv s), (iv t), (iv u)] 0 v fun n => ldI n (((bx e).add 0).add 0) fun x => Cl 78 #[(iv x), (iv 0), (iv g)] n fun y k => (∃ (o : Bool), y = (.bool o) ∧ qa1 (!o) (K (.bool false) k) (ldI k (((bx e).add 1).add 0) fun z => Cl 78 #[(iv z), (iv 0), (iv g)] k fun A l => (∃ (p : Bool), A = (.bool p) ∧ qa1 (!p) (K (.bool false) l) (ldI l (((bx e).add 2).add 0) fun B => Cl 179 #[(iv B)] l fun C h => (∃ (q : Bool), C = (.bool q) ∧ qa1 (!q) (K (.bool false) h) (ldI h (((bx e).add 2).add 0) fun D => qa1 (D == 0) (K (.bool false) h) (r ((wrap .i64 (d.1 + 1)), ()) h))))))))) (qa1 (((a : Nat) : Int) == 0) (K (.bool true) c) ((idx (wrap .i64 (((a : Nat) : Int) - 1)) a f fun m => ldI c ((m.add (((wrap .i64 (((a : Nat) : Int) - 1)).toNat) * 3)).add 0) fun E => ldI c ((m.add (((wrap .i64 (((a : Nat) : Int) - 1)).toNat) * 3)).add 1) fun F => ldI c ((m.add (((wrap .i64 (((a : Nat) : Int) - 1)).toNat) * 3)).add 2) fun G => newK c (.cells #[(iv 0), (iv 0), (iv 0)] 91) fun i H => qae (bx i) [(iv E), (iv F), (iv G)] 0 H fun b => qa1 (decide (((a : Nat) : Int) ≤ 24)) (ldI b (((bx i).add 0).add 0) fun I => ldI b (((bx i).add 1).add 0) fun J => qa1 (I != J) (ldI b (((bx i).add 0).add 0) fun L => qa1 (L != g) ((idx 0 a f fun M => ldI b (((M.add (((0 : Int).toNat) * 3)).add 1).add 0) fun N => qa1 (N == g) ((idx 0 a f fun O => ldI b (((O.add (((0 : Int).toNat) * 3)).add 2).add 0) fun P => K (.bool (P == 255)) b)) (K (.bool false) b))) (K (.bool false) b)) (K (.bool false) b)) (K (.bool false) b))))) (0, ()) w

def qbD.ann : Ann := (.seq .l (.seq (.seq .l (.one (.loop [(10, .int .i64)] (.seq .l (.seq (.two .l .l) (.seq (.one (.seq .l (.seq .l (.two (.seq .l .l) .l)))) .l)))))) (.seq (.seq .l (.two (.seq .l .l) .l)) (.seq .l (.seq .l .l)))))

theorem qbD.con {c : List D.Frame} {j : OA} {k : Nat} {g : Int} {r : Bool} {w : World} (F : M.qeH c g) (d : r = M.qbD c g) (i : Row el91 w j c) (aa : c.length ≤ k) :
    Cl 139 #[(sv j c.length k), (iv g)] w (fun G l => G = (.bool r) ∧ Ext w l) := by
 have H := wp.qbD.math c g F
 have b := Ext.refl w
 refine begK mixed Tryz.f139 ann (vc j c.length k g) ?_
 unfold vc
 unfold wp.qbD at H
 obtain ⟨I, ⟨J, K⟩, p⟩ := H
 refine ⟨fun L N l => ∃ (f : Int), N = (f, ()) ∧ I L (f, ()) ∧ Ext w l, ⟨J, 0, rfl, K, b⟩, ?_⟩
 rintro O _ ab ⟨f, rfl, q, b⟩
 have H := p O _ q
 clear p q
 try dsimp only at H ⊢
 apply brc H<;>intro h H
 ·obtain ⟨⟨s, t⟩, H⟩ := H
  obtain ⟨P, Q, m⟩ := Row.at (i.ext b) s t
  refine ⟨s, t, P, Q, _, (m 0 _ rfl), _, (m 1 _ rfl), _, (m 2 _ rfl), ?_⟩
  refine qkc #[(iv ((rd c f).Pc)), (iv ((rd c f).Stop)), (iv ((rd c f).Mask))] (fun ac ad L2 e R => ?_)
  refine ⟨_, (e.a 0), ?_⟩
  obtain ⟨S, T, H⟩ := qaf H
  refine (qah.con T ).mono ?_
  rintro _ ae ⟨rfl, u⟩
  have e := e.ext u
  have b := qac (qac b R) u
  refine ⟨S, rfl, ?_⟩
  apply brc H<;>intro h H
  ·cases d.trans H.symm
   exact ⟨rfl, b⟩
  refine ⟨_, (e.a 1), ?_⟩
  obtain ⟨U, V, H⟩ := qaf H
  refine (qah.con V ).mono ?_
  rintro _ af ⟨rfl, v⟩
  have e := e.ext v
  have b := qac b v
  refine ⟨U, rfl, ?_⟩
  apply brc H<;>intro h H
  ·cases d.trans H.symm
   exact ⟨rfl, b⟩
  refine ⟨_, (e.a 2), ?_⟩
  obtain ⟨W, X, H⟩ := qaf H
  refine (qcv.con X ).mono ?_
  rintro _ ag ⟨rfl, x⟩
  have e := e.ext x
  have b := qac b x
  refine ⟨W, rfl, ?_⟩
  apply brc H<;>intro h H
  ·cases d.trans H.symm
   exact ⟨rfl, b⟩
  refine ⟨_, (e.a 2), ?_⟩
  apply brc H<;>intro h H
  ·cases d.trans H.symm
   exact ⟨rfl, b⟩
  obtain ⟨Y, Z, a0⟩ := H
  exact ⟨Y, Z, _, rfl, a0, b⟩
 apply brc H<;>intro h H
 ·cases d.trans H.symm
  exact ⟨rfl, b⟩
 obtain ⟨⟨y, z⟩, H⟩ := H
 obtain ⟨a1, a2, n⟩ := Row.at (i.ext b) y z
 refine ⟨y, z, a1, a2, _, (n 0 _ rfl), _, (n 1 _ rfl), _, (n 2 _ rfl), ?_⟩
 refine qkc #[(iv ((rd c (wrap .i64 ((c.length : Int) - 1))).Pc)), (iv ((rd c (wrap .i64 ((c.length : Int) - 1))).Stop)), (iv ((rd c (wrap .i64 ((c.length : Int) - 1))).Mask))] (fun ah ai L3 o a3 => ?_)
 have b := qac b a3
 apply brc H<;>intro h H
 ·refine ⟨_, (o.a 0), _, (o.a 1), ?_⟩
  apply brc H<;>intro h H
  ·refine ⟨_, (o.a 0), ?_⟩
   apply brc H<;>intro h H
   ·obtain ⟨⟨A, B⟩, H⟩ := H
    obtain ⟨a4, a5, a6⟩ := Row.at (i.ext b) A B
    refine ⟨A, B, a4, a5, _, (a6 1 _ rfl), ?_⟩
    apply brc H<;>intro h H
    ·obtain ⟨⟨C, E⟩, H⟩ := H
     obtain ⟨a7, a8, a9⟩ := Row.at (i.ext b) C E
     refine ⟨C, E, a7, a8, _, (a9 2 _ rfl), ?_⟩
     cases d.trans H.symm
     exact ⟨rfl, b⟩
    cases d.trans H.symm
    exact ⟨rfl, b⟩
   cases d.trans H.symm
   exact ⟨rfl, b⟩
  cases d.trans H.symm
  exact ⟨rfl, b⟩
 cases d.trans H.symm
 exact ⟨rfl, b⟩
def qc0.vc (H : OA) (j I : Nat) (k : Int) (l : OA) (m n : Nat) (o : OA) (p q : Nat) (w : World) (K : VK) : Prop :=
  newK w (.cells #[(iv k), (sv l m n), (sv o p q)] 52) fun a e => ldI e (((bx a).add 0).add 0) fun r => Cl 137 #[(iv r)] e fun s b => (∃ (f : Bool), s = (.bool f) ∧ qa1 f (ldS b (((bx a).add 2).add 0) fun t u v => Cl 138 #[(sv t u v)] b fun x c => (∃ (g : Bool), x = (.bool g) ∧ qa1 g (ldS c (((bx a).add 2).add 0) fun y z A => Cl 136 #[(sv y z A)] c fun B d => (∃ (h : Bool), B = (.bool h) ∧ qa1 h (ldS d (((bx a).add 1).add 0) fun C D E => Cl 139 #[(sv C D E), (iv ((j : Nat) : Int))] d fun F G => (∃ (i : Bool), F = (.bool i) ∧ K (.bool i) G)) (K (.bool false) d))) (K (.bool false) c))) (K (.bool false) b))

def qc0.ann : Ann := (.seq .l (.seq .l .l))

theorem qc0.con {e : List D.Ins} {g i j : OA} {k l m : Nat} {c : D.Warp} {r : Bool} {w : World} (t : M.qeO e c) (f : r = M.qc0 e c) (O : Row el84 w g e) (P : e.length ≤ k) (u : Row el91 w i c.Frames) (v : c.Frames.length ≤ l) (n : Row el3 w j c.Regs) (o : c.Regs.length ≤ m) :
    Cl 79 #[(sv g e.length k), (.agg (wC i l j m c))] w (fun x y => x = (.bool r) ∧ Ext w y) := by
 have H := wp.qc0.math e c t
 refine begK mixed Tryz.f79 ann (vc g e.length k c.Number i c.Frames.length l j c.Regs.length m) ?_
 unfold vc
 unfold wp.qc0 at H
 refine qbx (fun Q R S d z => ?_)
 refine ⟨_, (d.a 0), ?_⟩
 obtain ⟨A, B, H⟩ := qaf H
 refine (qbf.con B ).mono ?_
 rintro _ T ⟨rfl, p⟩
 have d := d.ext p
 have b := qac (qac (Ext.refl w) z) p
 refine ⟨A, rfl, ?_⟩
 apply brc H<;>intro h H
 ·refine ⟨_, _, _, (d.a 2), ?_⟩
  obtain ⟨C, E, H⟩ := qaf H
  refine (qbK.con E (n.ext b) o).mono ?_
  rintro _ U ⟨rfl, q⟩
  have d := d.ext q
  have b := qac b q
  refine ⟨C, rfl, ?_⟩
  apply brc H<;>intro h H
  ·refine ⟨_, _, _, (d.a 2), ?_⟩
   obtain ⟨F, H⟩ := H
   obtain ⟨G, I, H⟩ := qaf H
   refine (qbz.con F I (n.ext b) o).mono ?_
   rintro _ V ⟨rfl, s⟩
   have d := d.ext s
   have b := qac b s
   refine ⟨G, rfl, ?_⟩
   apply brc H<;>intro h H
   ·refine ⟨_, _, _, (d.a 1), ?_⟩
    obtain ⟨J, H⟩ := H
    obtain ⟨K, L, H⟩ := qaf H
    refine (qbD.con J L (u.ext b) v).mono ?_
    rintro _ W ⟨rfl, N⟩
    have b := qac b N
    refine ⟨K, rfl, ?_⟩
    cases f.trans H.symm
    exact ⟨rfl, b⟩
   cases f.trans H.symm
   exact ⟨rfl, b⟩
  cases f.trans H.symm
  exact ⟨rfl, b⟩
 cases f.trans H.symm
 exact ⟨rfl, b⟩
def qbr.vc (x : OA) (y z : Nat) (A : OA) (B C : Nat) (D : OA) (E F : Nat) (G H : Int) (w : World) (K : VK) : Prop :=
  newK w (.cells (vB x y z A B C D E F G H) 33) fun c a => (∃ b : Nat → Prop, ldSM b a ((bx c).add 0) 0 fun I J L => Cl 75 #[(sv I J L)] a.drew fun M i => (∃ (n : Bool), M = (.bool n) ∧ qaS b a i ∧ qa1 (!n) (K (.bool false) i) (ldSM b a ((bx c).add 1) 0 fun aj N ak => Cl 76 #[(iv ((N : Nat) : Int))] i fun O j => (∃ (o : Bool), O = (.bool o) ∧ qaS b a j ∧ qa1 (!o) (K (.bool false) j) (ldSM b a ((bx c).add 2) 0 fun P Q R => Cl 77 #[(sv P Q R)] j fun S k => (∃ (p : Bool), S = (.bool p) ∧ qaS b a k ∧ qa1 (!p) (K (.bool false) k) (ldIM b a ((bx c).add 3) 0 fun T => ldSM b a ((bx c).add 1) 0 fun al q am => ((0 : Int) ≤ ((q : Nat) : Int) ∧ Cl 78 #[(iv T), (iv 0), (iv (wrap .i64 ((wrap .i64 (1 * 2 ^ (min (((q : Nat) : Int).toNat) (IntKind.bits .i64)))) - 2)))] k fun U l => (∃ (r : Bool), U = (.bool r) ∧ qaS b a l ∧ qa1 (!r) (K (.bool false) l) (ldIM b a ((bx c).add 4) 0 fun V => Cl 78 #[(iv V), (iv 0), (iv 100000)] l fun W h => (∃ (s : Bool), W = (.bool s) ∧ qaS b a h ∧ qa1 (!s) (K (.bool false) h) (ldS h (((bx c).add 1).add 0) fun X t an => qdS (σ := Int × Unit) (fun d f Y => qa1 (decide (d.1 < ((t : Nat) : Int))) ((idx d.1 t X fun m => ldI f ((m.add ((d.1.toNat) * 3)).add 0) fun Z => ldS f ((m.add ((d.1.toNat) * 3)).add 1) fun a0 a1 a2 => ldS f ((m.add ((d.1.toNat) * 3)).add 2) fun a3 a4 a5 => newK f (.cells #[(iv 0), (sv none 0 0), (sv none 0 0)] 52) fun g a6 => qae (bx g) [(iv Z), (sv a0 a1 a2), (sv a3 a4 a5)] 0 a6 fun e => ldI e (((bx g).add 0).add 0) fun a7 => qa1 (a7 != d.1) (K (.bool false) e) (ldS e (((bx c).add 0).add 0) fun a8 a9 aa => ldI e ((bx g).add 0) fun ab => ldS e ((bx g).add 1) fun ac ad ae => ldS e ((bx g).add 2) fun af ag ah => Cl 79 #[(sv a8 a9 aa), (.agg #[(iv ab), (sv ac ad ae), (sv af ag ah)])] e fun ai u => (∃ (v : Bool), ai = (.bool v) ∧ qa1 (!v) (K (.bool false) u) (Y ((wrap .i64 (d.1 + 1)), ()) u))))) (K (.bool true) f)) (0, ()) h))))))))))))

def qbr.ann : Ann := (.seq .l (.seq (.seq .l (.two (.seq .l .l) .l)) (.seq (.seq .l (.one (.loop [(42, .int .i64)] (.seq .l (.seq (.two .l .l) (.seq (.one (.seq .l (.seq .l (.two (.seq .l .l) .l)))) .l)))))) (.seq .l .l))))

theorem qbr.con {d : D.Block} {k l m : OA} {n o p : Nat} {r : Bool} {w : World} (J : M.qda d) (g : r = M.qbr d) (z : Row el84 w k d.Code) (A : d.Code.length ≤ n) (K : RowW 52 el91 el3 w l d.Warps) (au : d.Warps.length ≤ o) (L : Row el3 w m d.Memory) (N : d.Memory.length ≤ p) :
    Cl 32 #[(.agg (bC k n l o m p d))] w (fun O q => O = (.bool r) ∧ Ext w q) := by
 have H := wp.qbr.math d J
 refine begK mixed Tryz.f32 ann (vc k d.Code.length n l d.Warps.length o m d.Memory.length p d.Waiting d.Phase) ?_
 unfold vc
 unfold wp.qbr at H
 refine qbx (fun P Q L4 c R => ?_)
 have b := qac (Ext.refl w) R
 refine ⟨(fun _ => False), ?_⟩
 have hBz := b
 have j := c
 refine ⟨_, _, _, noM (c.a 0), ?_⟩
 have c := c.ext (Ext.drew _)
 have b := qac b (Ext.drew _)
 have e := (Chg.refl (fun _ => False) Q).then (Ext.drew _)
 obtain ⟨S, H⟩ := H
 obtain ⟨T, U, H⟩ := qaf H
 refine (qaD.con S U (z.ext b) A).mono ?_
 rintro _ av ⟨rfl, t⟩
 have c := c.ext t
 have b := qac b t
 have e := e.then t
 refine ⟨T, rfl, qaj e, ?_⟩
 apply brc H<;>intro h H
 ·cases g.trans H.symm
  exact ⟨rfl, b⟩
 refine ⟨_, _, _, ⟨(fun f => f), (j.at 1 rfl rfl)⟩, ?_⟩
 obtain ⟨V, W, H⟩ := qaf H
 refine (qaW.con W ).mono ?_
 rintro _ aw ⟨rfl, u⟩
 have c := c.ext u
 have b := qac b u
 have e := e.then u
 refine ⟨V, rfl, qaj e, ?_⟩
 apply brc H<;>intro h H
 ·cases g.trans H.symm
  exact ⟨rfl, b⟩
 refine ⟨_, _, _, ⟨(fun f => f), (j.at 2 rfl rfl)⟩, ?_⟩
 obtain ⟨X, H⟩ := H
 obtain ⟨Y, Z, H⟩ := qaf H
 refine (qbo.con X Z (L.ext b) N).mono ?_
 rintro _ ax ⟨rfl, v⟩
 have c := c.ext v
 have b := qac b v
 have e := e.then v
 refine ⟨Y, rfl, qaj e, ?_⟩
 apply brc H<;>intro h H
 ·cases g.trans H.symm
  exact ⟨rfl, b⟩
 refine ⟨_, ⟨(fun f => f), (j.at 3 rfl rfl)⟩, _, _, _, ⟨(fun f => f), (j.at 1 rfl rfl)⟩, ?_⟩
 obtain ⟨a0, H⟩ := H
 refine ⟨a0, ?_⟩
 obtain ⟨a1, a2, H⟩ := qaf H
 refine (qah.con a2 ).mono ?_
 rintro _ ay ⟨rfl, x⟩
 have c := c.ext x
 have b := qac b x
 have e := e.then x
 refine ⟨a1, rfl, qaj e, ?_⟩
 apply brc H<;>intro h H
 ·cases g.trans H.symm
  exact ⟨rfl, b⟩
 refine ⟨_, ⟨(fun f => f), (j.at 4 rfl rfl)⟩, ?_⟩
 obtain ⟨a3, a4, H⟩ := qaf H
 refine (qah.con a4 ).mono ?_
 rintro _ az ⟨rfl, y⟩
 have c := c.ext y
 have b := qac b y
 have e := e.then y
 refine ⟨a3, rfl, qaj e, ?_⟩
 apply brc H<;>intro h H
 ·cases g.trans H.symm
  exact ⟨rfl, b⟩
 refine ⟨_, _, _, (c.a 1), ?_⟩
 obtain ⟨a5, ⟨a6, a7⟩, B⟩ := H
 refine ⟨fun m_ z_ q => ∃ (i : Int), z_ = (i, ()) ∧ a5 m_ (i, ()) ∧ Ext w q ∧ Blk q P 33 (bC k n l o m p d), ⟨a6, 0, rfl, a7, b, c⟩, ?_⟩
 rintro a8 _ aA ⟨i, rfl, C, b, c⟩
 have H := B a8 _ C
 clear B C
 try dsimp only at H ⊢
 apply brc H<;>intro h H
 ·obtain ⟨⟨E, F⟩, H⟩ := H
  obtain ⟨a9, aa, ab, ac, ad, ae, af, ag, ah, ai, aj, ak, al⟩ := RowW.at K E F
  refine ⟨E, F, a9, aa, _, (Ext.cell b af), _, _, _, (Ext.cell b ag), _, _, _, (Ext.cell b ah), ?_⟩
  refine qkc #[(iv ((rd d.Warps i).Number)), (sv ab ((rd d.Warps i).Frames.length) ac), (sv ad ((rd d.Warps i).Regs.length) ae)] (fun aB aC L7 s G => ?_)
  have c := c.ext G
  have b := qac b G
  refine ⟨_, (s.a 0), ?_⟩
  apply brc H<;>intro h H
  ·cases g.trans H.symm
   exact ⟨rfl, b⟩
  refine ⟨_, _, _, (c.a 0), _, (s.a 0), _, _, _, (s.a 1), _, _, _, (s.a 2), ?_⟩
  obtain ⟨am, H⟩ := H
  obtain ⟨an, ao, H⟩ := qaf H
  refine (cllA (qc0.con am ao (z.ext b) A (ai.ext b) aj (ak.ext b) al)).mono ?_
  rintro _ aD ⟨rfl, I⟩
  have c := c.ext I
  have b := qac b I
  refine ⟨an, rfl, ?_⟩
  apply brc H<;>intro h H
  ·cases g.trans H.symm
   exact ⟨rfl, b⟩
  obtain ⟨ap, aq, ar⟩ := H
  exact ⟨ap, aq, _, rfl, ar, b, c⟩
 cases g.trans H.symm
 exact ⟨rfl, b⟩
def qcw.vc (f : OA) (g h : Nat) (i : OA) (j k : Nat) (l : OA) (m n : Nat) (o p q : Int) (w : World) (K : VK) : Prop :=
  newK w (.cells (vB f g h i j k l m n o p) 33) fun b c => ldB c (bx b) fun r s t u v x y z A B C => Cl 32 #[(.agg (vB r s t u v x y z A B C))] c fun D a => (∃ (d : Bool), D = (.bool d) ∧ qa1 d (ldS a (((bx b).add 1).add 0) fun H E I => Cl 78 #[(iv q), (iv 0), (iv (wrap .i64 (((E : Nat) : Int) - 1)))] a fun F G => (∃ (e : Bool), F = (.bool e) ∧ K (.bool e) G)) (K (.bool false) a))

def qcw.ann : Ann := (.seq .l (.seq .l .l))

theorem qcw.con {b : D.Block} {f g i : OA} {j k l : Nat} {e : Int} {r : Bool} {w : World} (o : M.qfh b e) (m : r = M.qcw b e) (p : Row el84 w f b.Code) (q : b.Code.length ≤ j) (s : RowW 52 el91 el3 w g b.Warps) (t : b.Warps.length ≤ k) (u : Row el3 w i b.Memory) (v : b.Memory.length ≤ l) :
    Cl 62 #[(.agg (bC f j g k i l b)), (iv e)] w (fun x y => x = (.bool r) ∧ Ext w y) := by
 have H := wp.qcw.math b e o
 refine begK mixed Tryz.f62 ann (vc f b.Code.length j g b.Warps.length k i b.Memory.length l b.Waiting b.Phase e) ?_
 unfold vc
 unfold wp.qcw at H
 refine qbx (fun I J K d z => ?_)
 have c := qac (Ext.refl w) z
 refine ⟨_, _, _, (d.a 0), _, _, _, (d.a 1), _, _, _, (d.a 2), _, (d.a 3), _, (d.a 4), ?_⟩
 obtain ⟨A, H⟩ := H
 obtain ⟨B, C, H⟩ := qaf H
 refine (qbr.con A C (p.ext c) q (s.ext c) t (u.ext c) v).mono ?_
 rintro _ L ⟨rfl, n⟩
 have d := d.ext n
 have c := qac c n
 refine ⟨B, rfl, ?_⟩
 apply brc H<;>intro h H
 ·refine ⟨_, _, _, (d.a 1), ?_⟩
  obtain ⟨E, F, H⟩ := qaf H
  refine (qah.con F ).mono ?_
  rintro _ N ⟨rfl, G⟩
  have c := qac c G
  refine ⟨E, rfl, ?_⟩
  cases m.trans H.symm
  exact ⟨rfl, c⟩
 cases m.trans H.symm
 exact ⟨rfl, c⟩
def qbi.vc (c : OA) (d e : Nat) (f : OA) (g h : Nat) (i : OA) (j k : Nat) (l m a : Int) (w : World) (K : VK) : Prop :=
  newK w (.cells (vB c d e f g h i j k l m) 33) fun n b => ldI b (((bx n).add 3).add 0) fun o => ((0 : Int) ≤ a ∧ K (.bool ((qds .i64 (Int.fdiv o (2 ^ (min (a.toNat) (IntKind.bits .i64)))) 1) == 1)) b)

def qbi.ann : Ann := (.seq .l (.seq .l .l))

theorem qbi.con {b : D.Block} {d e f : OA} {g h i : Nat} {c : Int} {r : Bool} {w : World} (j : M.qdo b c) (k : r = M.qbi b c) (s : Row el84 w d b.Code) (t : b.Code.length ≤ g) (u : RowW 52 el91 el3 w e b.Warps) (v : b.Warps.length ≤ h) (x : Row el3 w f b.Memory) (y : b.Memory.length ≤ i) :
    Cl 65 #[(.agg (bC d g e h f i b)), (iv c)] w (fun l m => l = (.bool r) ∧ Ext w m) := by
 have H := wp.qbi.math b c j
 refine begK mixed Tryz.f65 ann (vc d b.Code.length g e b.Warps.length h f b.Memory.length i b.Waiting b.Phase c) ?_
 unfold vc
 unfold wp.qbi at H
 refine qbx (fun z A B n o => ?_)
 have p := qac (Ext.refl w) o
 refine ⟨_, (n.a 3), ?_⟩
 obtain ⟨q, H⟩ := H
 refine ⟨q, ?_⟩
 cases k.trans H.symm
 exact ⟨rfl, p⟩
def qa4.vc (g : OA) (d s h : Nat) (i : Array Value) (w : World) (K : VK) : Prop :=
  qdS (σ := Int × Unit) (fun a b j => qa1 (decide (a.1 < ((d : Nat) : Int))) ((idx a.1 d g fun c => ldI b ((c.add ((a.1.toNat) * 3)).add 0) fun k => ldS b ((c.add ((a.1.toNat) * 3)).add 1) fun l m n => ldS b ((c.add ((a.1.toNat) * 3)).add 2) fun o p q => Cl h (#[(.agg #[(iv k), (sv l m n), (sv o p q)])] ++ i) b fun r e => (∃ (f : Bool), r = (.bool f) ∧ qa1 f (K (iv a.1) e) (j ((wrap .i64 (a.1 + 1)), ()) e)))) (K (iv (-1)) b)) (0, ()) w

def qa4.ann : Ann := (.seq .l (.seq (.seq .l (.one (.loop [(8, .int .i64)] (.seq .l (.seq (.two .l .l) (.seq (.one (.seq .l (.seq .l (.two (.seq .l .l) .l)))) .l)))))) (.seq .l .l)))

theorem qa4.start {A0 : OA} {n0 c0 f1 : Nat} {cap1 : Array Value} {w : World} {K : Value → World → Prop} (h : qa4.vc A0 n0 c0 f1 cap1 w K) : Cl 165 #[(sv A0 n0 c0), (.func (.func f1) #[] cap1)] w K :=
  qdG mixed (fn := Tryz.f165) (by kernel_rfl) (by kernel_rfl) (an := qa4.ann) (args := [(sv A0 n0 c0), (.func (.func f1) #[] cap1)]) (Eq.mpr (by kernel_rfl) h)

theorem qa4.con {c : List D.Warp} {j : OA} {k l : Nat} {m : Array Value} {e : D.Warp → Bool} {g : D.Warp → Prop} {r : Int} {w : World} (y : M.qcd c e g) (n : r = M.qa4 c e) (z : RowW 52 el91 el3 w j c) (a1 : c.length ≤ k) (A : ∀ (d : D.Warp) (o : OA) (p : Nat) (q : OA) (s : Nat), g d → ∀ b : World, Ext w b → Row el91 b o d.Frames → d.Frames.length ≤ p → Row el3 b q d.Regs → d.Regs.length ≤ s → Cl l (#[(.agg (wC o p q s d))] ++ m) b (fun i B => i = (.bool (e d)) ∧ Ext b B)) :
    Cl 165 #[(sv j c.length k), (.func (.func l) #[] m)] w (fun i b => i = (iv r) ∧ Ext w b) := by
 have H := wp.qa4.math c e g y
 have a := Ext.refl w
 refine qa4.start ?_
 unfold vc
 unfold wp.qa4 at H
 obtain ⟨C, ⟨E, F⟩, t⟩ := H
 refine ⟨fun G I b => ∃ (f : Int), I = (f, ()) ∧ C G (f, ()) ∧ Ext w b, ⟨E, 0, rfl, F, a⟩, ?_⟩
 rintro J _ a2 ⟨f, rfl, u, a⟩
 have H := t J _ u
 clear t u
 try dsimp only at H ⊢
 apply brc H<;>intro h H
 ·obtain ⟨⟨v, x⟩, H⟩ := H
  obtain ⟨K, L, a3, a4, a5, a6, N, O, P, Q, R, S, T⟩ := RowW.at z v x
  refine ⟨v, x, K, L, _, (Ext.cell a N), _, _, _, (Ext.cell a O), _, _, _, (Ext.cell a P), ?_⟩
  obtain ⟨U, H⟩ := H
  obtain ⟨V, W, H⟩ := qaf H
  refine (A (rd c f) _ _ _ _ U _ a (Q.ext a) R (S.ext a) T).mono ?_
  rintro _ a7 ⟨rfl, X⟩
  rw [← W]
  have a := qac a X
  refine ⟨V, rfl, ?_⟩
  apply brc H<;>intro h H
  ·cases n.trans H.symm
   exact ⟨rfl, a⟩
  obtain ⟨Y, Z, a0⟩ := H
  exact ⟨Y, Z, _, rfl, a0, a⟩
 cases n.trans H.symm
 exact ⟨rfl, a⟩
def qa5.vc (b : OA) (c d e : Nat) (f : Array Value) (w : World) (K : VK) : Prop :=
  Cl 165 #[(sv b c d), (.func (.func e) #[] f)] w fun g h => (∃ (a : Int), g = (iv a) ∧ K (.bool (decide (a ≥ 0))) h)

def qa5.ann : Ann := (.seq .l (.seq .l .l))

theorem qa5.start {A0 : OA} {n0 c0 f1 : Nat} {cap1 : Array Value} {w : World} {K : Value → World → Prop} (h : qa5.vc A0 n0 c0 f1 cap1 w K) : Cl 119 #[(sv A0 n0 c0), (.func (.func f1) #[] cap1)] w K :=
  qdG mixed (fn := Tryz.f119) (by kernel_rfl) (by kernel_rfl) (an := qa5.ann) (args := [(sv A0 n0 c0), (.func (.func f1) #[] cap1)]) (Eq.mpr (by kernel_rfl) h)

theorem qa5.con {c : List D.Warp} {l : OA} {m n : Nat} {o : Array Value} {e : D.Warp → Bool} {j : D.Warp → Prop} {r : Bool} {w : World} (p : M.qbQ c e j) (q : r = M.qa5 c e) (s : RowW 52 el91 el3 w l c) (t : c.length ≤ m) (u : ∀ (a : D.Warp) (f : OA) (g : Nat) (h : OA) (i : Nat), j a → ∀ b : World, Ext w b → Row el91 b f a.Frames → a.Frames.length ≤ g → Row el3 b h a.Regs → a.Regs.length ≤ i → Cl n (#[(.agg (wC f g h i a))] ++ o) b (fun k v => k = (.bool (e a)) ∧ Ext b v)) :
    Cl 119 #[(sv l c.length m), (.func (.func n) #[] o)] w (fun k b => k = (.bool r) ∧ Ext w b) := by
 have H := wp.qa5.math c e j p
 have d := Ext.refl w
 refine qa5.start ?_
 unfold vc
 unfold wp.qa5 at H
 obtain ⟨x, H⟩ := H
 obtain ⟨y, z, H⟩ := qaf H
 refine (qa4.con x z (s.ext d) t (fun a f g h i A b B => u a f g h i A b (qac d B))).mono ?_
 rintro _ E ⟨rfl, C⟩
 have d := qac d C
 refine ⟨y, rfl, ?_⟩
 cases q.trans H.symm
 exact ⟨rfl, d⟩
def qaT.vc (b : Int) (c : OA) (d e : Nat) (f : OA) (g h : Nat) (w : World) (K : VK) : Prop :=
  newK w (.cells #[(iv b), (sv c d e), (sv f g h)] 52) fun i a => ldS a (((bx i).add 1).add 0) fun k j l => K (.bool (decide (((j : Nat) : Int) > 0))) a

def qaT.ann : Ann := (.seq .l (.seq .l .l))

theorem qaT.con {b : D.Warp} {c d : OA} {e f : Nat} {r : Bool} {w : World} (g : M.qdM b) (h : r = M.qaT b) (n : Row el91 w c b.Frames) (o : b.Frames.length ≤ e) (p : Row el3 w d b.Regs) (q : b.Regs.length ≤ f) :
    Cl 120 #[(.agg (wC c e d f b))] w (fun i j => i = (.bool r) ∧ Ext w j) := by
 have H := wp.qaT.math b g
 refine begK mixed Tryz.f120 ann (vc b.Number c b.Frames.length e d b.Regs.length f) ?_
 unfold vc
 unfold wp.qaT at H
 refine qbx (fun s t u k l => ?_)
 have m := qac (Ext.refl w) l
 refine ⟨_, _, _, (k.a 1), ?_⟩
 cases h.trans H.symm
 exact ⟨rfl, m⟩
def qaX.vc (c : OA) (d e : Nat) (f : OA) (g h : Nat) (i : OA) (j k : Nat) (l m : Int) (w : World) (K : VK) : Prop :=
  newK w (.cells (vB c d e f g h i j k l m) 33) fun n a => ldS a (((bx n).add 1).add 0) fun o p q => Cl 119 #[(sv o p q), (.func (.func 120) #[] #[])] a fun r s => (∃ (b : Bool), r = (.bool b) ∧ K (.bool (!b)) s)

def qaX.ann : Ann := (.seq .l (.seq .l .l))

theorem qaX.con {b : D.Block} {d e f : OA} {g h i : Nat} {r : Bool} {w : World} (k : M.qdm b) (l : r = M.qaX b) (C : Row el84 w d b.Code) (E : b.Code.length ≤ g) (m : RowW 52 el91 el3 w e b.Warps) (n : b.Warps.length ≤ h) (F : Row el3 w f b.Memory) (G : b.Memory.length ≤ i) :
    Cl 60 #[(.agg (bC d g e h f i b))] w (fun o j => o = (.bool r) ∧ Ext w j) := by
 have H := wp.qaX.math b k
 refine begK mixed Tryz.f60 ann (vc d b.Code.length g e b.Warps.length h f b.Memory.length i b.Waiting b.Phase) ?_
 unfold vc
 unfold wp.qaX at H
 refine qbx (fun I J K p q => ?_)
 have c := qac (Ext.refl w) q
 refine ⟨_, _, _, (p.a 1), ?_⟩
 obtain ⟨s, H⟩ := H
 obtain ⟨t, u, H⟩ := qaf H
 refine (qa5.con s u (m.ext c) n (fun L N O P Q v j R x y z A => qhB (l1 := [_]) (l2 := []) (qaT.con v rfl x y z A))).mono ?_
 rintro _ S ⟨rfl, B⟩
 have c := qac c B
 refine ⟨t, rfl, ?_⟩
 cases l.trans H.symm
 exact ⟨rfl, c⟩
def qbC.vc (f : OA) (g h : Nat) (i : OA) (j k : Nat) (l : OA) (m n : Nat) (o p : Int) (w : World) (K : VK) : Prop :=
  newK w (.cells (vB f g h i j k l m n o p) 33) fun b c => ldB c (bx b) fun q r s t u v x y z A B => Cl 32 #[(.agg (vB q r s t u v x y z A B))] c fun C a => (∃ (d : Bool), C = (.bool d) ∧ qa1 d (ldB a (bx b) fun D E F G H I J L M N O => Cl 60 #[(.agg (vB D E F G H I J L M N O))] a fun P Q => (∃ (e : Bool), P = (.bool e) ∧ K (.bool e) Q)) (K (.bool false) a))

def qbC.ann : Ann := (.seq .l (.seq .l .l))

theorem qbC.con {b : D.Block} {e f g : OA} {i j k : Nat} {r : Bool} {w : World} (u : M.qem b) (l : r = M.qbC b) (m : Row el84 w e b.Code) (n : b.Code.length ≤ i) (o : RowW 52 el91 el3 w f b.Warps) (p : b.Warps.length ≤ j) (q : Row el3 w g b.Memory) (s : b.Memory.length ≤ k) :
    Cl 26 #[(.agg (bC e i f j g k b))] w (fun v x => v = (.bool r) ∧ Ext w x) := by
 have H := wp.qbC.math b u
 refine begK mixed Tryz.f26 ann (vc e b.Code.length i f b.Warps.length j g b.Memory.length k b.Waiting b.Phase) ?_
 unfold vc
 unfold wp.qbC at H
 refine qbx (fun I J K c y => ?_)
 have d := qac (Ext.refl w) y
 refine ⟨_, _, _, (c.a 0), _, _, _, (c.a 1), _, _, _, (c.a 2), _, (c.a 3), _, (c.a 4), ?_⟩
 obtain ⟨z, H⟩ := H
 obtain ⟨A, B, H⟩ := qaf H
 refine (qbr.con z B (m.ext d) n (o.ext d) p (q.ext d) s).mono ?_
 rintro _ L ⟨rfl, t⟩
 have c := c.ext t
 have d := qac d t
 refine ⟨A, rfl, ?_⟩
 apply brc H<;>intro h H
 ·refine ⟨_, _, _, (c.a 0), _, _, _, (c.a 1), _, _, _, (c.a 2), _, (c.a 3), _, (c.a 4), ?_⟩
  obtain ⟨C, H⟩ := H
  obtain ⟨E, F, H⟩ := qaf H
  refine (qaX.con C F (m.ext d) n (o.ext d) p (q.ext d) s).mono ?_
  rintro _ N ⟨rfl, G⟩
  have d := qac d G
  refine ⟨E, rfl, ?_⟩
  cases l.trans H.symm
  exact ⟨rfl, d⟩
 cases l.trans H.symm
 exact ⟨rfl, d⟩
def qan.vc (k : OA) (l m : Nat) (n : OA) (o p : Nat) (q : OA) (r s : Nat) (t u i : Int) (w : World) (K : VK) : Prop :=
  newK w (.cells (vB k l m n o p q r s t u) 33) fun j v => newK v (.cells #[(iv 0), (iv 0), (iv 0), (iv 0)] 84) fun b a => ldS a (((bx j).add 1).add 0) fun x y R => (idx i y x fun z => ldS a (((z.add ((i.toNat) * 3)).add 1).add 0) fun A g S => qa1 (((g : Nat) : Int) == 0) (qae (bx b) [(iv 0), (iv 0), (iv 0), (iv 0)] 0 a fun e => ldI e ((bx b).add 0) fun B => ldI e ((bx b).add 1) fun C => ldI e ((bx b).add 2) fun D => ldI e ((bx b).add 3) fun E => K (.tuple #[(.agg #[(iv B), (iv C), (iv D), (iv E)]), (.bool false)]) e) ((∃ c : Nat → Prop, ldSM c a ((bx j).add 0) 0 fun F G T => (idx (wrap .i64 (((g : Nat) : Int) - 1)) g A fun H => ldIM c a ((H.add (((wrap .i64 (((g : Nat) : Int) - 1)).toNat) * 3)).add 0) 0 fun f => (idx f G F fun h => ldIM c a (h.add ((f.toNat) * 4)) 0 fun I => ldIM c a (h.add ((f.toNat) * 4)) 1 fun J => ldIM c a (h.add ((f.toNat) * 4)) 2 fun L => ldIM c a (h.add ((f.toNat) * 4)) 3 fun M => qae (bx b) [(iv I), (iv J), (iv L), (iv M)] 0 a.drew fun d => qaS c a d ∧ ldI d ((bx b).add 0) fun N => ldI d ((bx b).add 1) fun O => ldI d ((bx b).add 2) fun P => ldI d ((bx b).add 3) fun Q => K (.tuple #[(.agg #[(iv N), (iv O), (iv P), (iv Q)]), (.bool true)]) d)))))

def qan.ann : Ann := (.seq .l (.seq .l (.seq (.seq .l (.two (.seq .l .l) .l)) (.seq .l .l))))

theorem qan.con {b : D.Block} {v x y : OA} {z E F : Nat} {e : Int} {r : D.Ins × Bool} {w : World} (R : M.qcI b e) (I : r = M.qan b e) (n : Row el84 w v b.Code) (a5 : b.Code.length ≤ z) (S : RowW 52 el91 el3 w x b.Warps) (a6 : b.Warps.length ≤ E) (a7 : Row el3 w y b.Memory) (a8 : b.Memory.length ≤ F) :
    Cl 68 #[(.agg (bC v z x E y F b)), (iv e)] w (fun T U => T = (.tuple #[(.agg (iC r.1)), (.bool r.2)]) ∧ Ext w U) := by
 have H := wp.qan.math b e R
 refine begK mixed Tryz.f68 ann (vc v b.Code.length z x b.Warps.length E y b.Memory.length F b.Waiting b.Phase e) ?_
 unfold vc
 unfold wp.qan at H
 refine qbx (fun a9 aa L4 p V => ?_)
 have c := qac (Ext.refl w) V
 refine qbx (fun k W i X J => ?_)
 have Y := p.ne i
 have p := p.ext J
 have d := X
 have i := Nat.le_trans c.size i
 have c := qac c J
 refine ⟨_, _, _, (p.a 1), ?_⟩
 obtain ⟨⟨K, L⟩, H⟩ := H
 obtain ⟨Z, a0, ab, ac, ad, ae, af, a1, ag, N, ah, ai, aj⟩ := RowW.at S K L
 refine ⟨K, L, Z, a0, _, _, _, (Ext.cell c a1), ?_⟩
 apply brc H<;>intro h H
 ·refine qd9 d (o := 0) (cs' := #[(iv 0), (iv 0), (iv 0), (iv 0)]) rfl rfl (Nat.le_of_ble_eq_true rfl) rfl (fun ak d a2 => ?_)
  have c := echg c a2 i
  refine ⟨_, (d.a 0), _, (d.a 1), _, (d.a 2), _, (d.a 3), ?_⟩
  cases I.trans H.symm
  exact ⟨rfl, c⟩
 refine ⟨((fun f => f = k)), _, _, _, ⟨(qi1 (Y) (by first | rfl | (simp only [qeF]))), (p.a 0)⟩, ?_⟩
 obtain ⟨⟨G, t⟩, H⟩ := H
 obtain ⟨O, P, a3⟩ := Row.at (N.ext c) G t
 refine ⟨G, (by first | exact t | omega | (simp at t ⊢; omega)), O, P, _, ⟨(qi1 (M := ((fun f => f = k))) (g := Addr.block O) (fun j => absurd (N.old (qmh G t) _ ⟨_, P, rfl⟩) (Nat.not_lt.2 (qfH i _ j))) (by first | rfl | (simp only [qeF]))), (a3 0 _ rfl)⟩, ?_⟩
 obtain ⟨⟨l, m⟩, H⟩ := H
 obtain ⟨q, s, u⟩ := Row.at (n.ext c) l m
 refine ⟨l, m, q, s, _, ⟨(qi1 (M := ((fun f => f = k))) (g := Addr.block q) (fun j => absurd (n.old (qmh l m) _ ⟨_, s, rfl⟩) (Nat.not_lt.2 (qfH i _ j))) (by first | rfl | (simp only [qeF]))), (u 0 _ rfl)⟩, _, ⟨(qi1 (M := ((fun f => f = k))) (g := Addr.block q) (fun j => absurd (n.old (qmh l m) _ ⟨_, s, rfl⟩) (Nat.not_lt.2 (qfH i _ j))) (by first | rfl | (simp only [qeF]))), (u 1 _ rfl)⟩, _, ⟨(qi1 (M := ((fun f => f = k))) (g := Addr.block q) (fun j => absurd (n.old (qmh l m) _ ⟨_, s, rfl⟩) (Nat.not_lt.2 (qfH i _ j))) (by first | rfl | (simp only [qeF]))), (u 2 _ rfl)⟩, ?_⟩
 refine ⟨_, ⟨(qi1 (M := ((fun f => f = k))) (g := Addr.block q) (fun j => absurd (n.old (qmh l m) _ ⟨_, s, rfl⟩) (Nat.not_lt.2 (qfH i _ j))) (by first | rfl | (simp only [qeF]))), (u 3 _ rfl)⟩, ?_⟩
 have d := d.ext (Ext.drew _)
 have c := qac c (Ext.drew _)
 refine qd9 d (o := 0) (cs' := #[(iv ((rd b.Code ((rd ((rd b.Warps e).Frames) (wrap .i64 (((rd b.Warps e).Frames.length : Int) - 1))).Pc)).Op)), (iv ((rd b.Code ((rd ((rd b.Warps e).Frames) (wrap .i64 (((rd b.Warps e).Frames.length : Int) - 1))).Pc)).A)), (iv ((rd b.Code ((rd ((rd b.Warps e).Frames) (wrap .i64 (((rd b.Warps e).Frames.length : Int) - 1))).Pc)).B)), (iv ((rd b.Code ((rd ((rd b.Warps e).Frames) (wrap .i64 (((rd b.Warps e).Frames.length : Int) - 1))).Pc)).C))]) rfl rfl (Nat.le_of_ble_eq_true rfl) rfl (fun al d Q => ?_)
 have c := echg c Q i
 have a4 := ((Chg.refl ((fun f => f = k)) W).then (Ext.drew _)).chgb Q (Or.inr rfl)
 refine ⟨qaj a4, _, (d.a 0), _, (d.a 1), _, (d.a 2), _, (d.a 3), ?_⟩
 cases I.trans H.symm
 exact ⟨rfl, c⟩
def qcu.vc (m : OA) (n o : Nat) (p : OA) (q r : Nat) (s : OA) (t u : Nat) (v x h : Int) (w : World) (K : VK) : Prop :=
  newK w (.cells (vB m n o p q r s t u v x) 33) fun i j => ldB j (bx i) fun y z A B C D E F G H I => Cl 62 #[(.agg (vB y z A B C D E F G H I)), (iv h)] j fun J a => (∃ (k : Bool), J = (.bool k) ∧ qa1 (!k) (K (iv (-1)) a) (ldB a (bx i) fun L M N O P Q R S T U V => Cl 68 #[(.agg (vB L M N O P Q R S T U V)), (iv h)] a fun W X => (∃ Y : Value, (∃ (b : Int), True ∧ ∃ (c : Int), True ∧ ∃ (d : Int), True ∧ ∃ (e : Int), True ∧ Y = (.agg #[(iv b), (iv c), (iv d), (iv e)]) ∧ ∃ Z : Value, (∃ (f : Bool), Z = (.bool f) ∧ W = (.tuple #[(.agg #[(iv b), (iv c), (iv d), (iv e)]), (.bool f)]) ∧ newK X (.cells #[(iv 0), (iv 0), (iv 0), (iv 0)] 84) fun l a0 => qae (bx l) [(iv b), (iv c), (iv d), (iv e)] 0 a0 fun g => qa1 (!f) (K (iv (-1)) g) (ldI g (((bx l).add 0).add 0) fun a1 => K (iv a1) g))))))

def qcu.ann : Ann := (.seq .l (.seq (.seq .l (.two (.seq .l .l) .l)) (.seq .l (.seq (.seq .l (.two (.seq .l .l) .l)) (.seq .l .l)))))

theorem qcu.con {b : D.Block} {g i j : OA} {k l m : Nat} {f r : Int} {w : World} (x : M.qfw b f) (n : r = M.qcu b f) (o : Row el84 w g b.Code) (p : b.Code.length ≤ k) (q : RowW 52 el91 el3 w i b.Warps) (s : b.Warps.length ≤ l) (t : Row el3 w j b.Memory) (u : b.Memory.length ≤ m) :
    Cl 28 #[(.agg (bC g k i l j m b)), (iv f)] w (fun y z => y = (iv r) ∧ Ext w z) := by
 have H := wp.qcu.math b f x
 refine begK mixed Tryz.f28 ann (vc g b.Code.length k i b.Warps.length l j b.Memory.length m b.Waiting b.Phase f) ?_
 unfold vc
 unfold wp.qcu at H
 refine qbx (fun P Q R d E => ?_)
 have c := qac (Ext.refl w) E
 refine ⟨_, _, _, (d.a 0), _, _, _, (d.a 1), _, _, _, (d.a 2), _, (d.a 3), _, (d.a 4), ?_⟩
 obtain ⟨F, H⟩ := H
 obtain ⟨G, I, H⟩ := qaf H
 refine (qcw.con F I (o.ext c) p (q.ext c) s (t.ext c) u).mono ?_
 rintro _ S ⟨rfl, v⟩
 have d := d.ext v
 have c := qac c v
 refine ⟨G, rfl, ?_⟩
 apply brc H<;>intro h H
 ·cases n.trans H.symm
  exact ⟨rfl, c⟩
 refine ⟨_, _, _, (d.a 0), _, _, _, (d.a 1), _, _, _, (d.a 2), _, (d.a 3), _, (d.a 4), ?_⟩
 obtain ⟨J, H⟩ := H
 obtain ⟨e, K, H⟩ := qaf H
 refine (qan.con J K (o.ext c) p (q.ext c) s (t.ext c) u).mono ?_
 rintro _ T ⟨rfl, L⟩
 refine ⟨(.agg (iC e.1)), e.1.Op, trivial, e.1.A, trivial, e.1.B, trivial, e.1.C, trivial, rfl, (.bool e.2), e.2, rfl, rfl, ?_⟩
 refine qkc (iC e.1) (fun U V W N O => ?_)
 have c := qac (qac c L) O
 apply brc H<;>intro h H
 ·cases n.trans H.symm
  exact ⟨rfl, c⟩
 refine ⟨_, (N.a 0), ?_⟩
 cases n.trans H.symm
 exact ⟨rfl, c⟩
def qcg.vc (c : OA) (d e : Nat) (f : OA) (g h : Nat) (i : OA) (j k : Nat) (l m n : Int) (w : World) (K : VK) : Prop :=
  newK w (.cells (vB c d e f g h i j k l m) 33) fun o a => ldB a (bx o) fun p q r s t u v x y z A => Cl 28 #[(.agg (vB p q r s t u v x y z A)), (iv n)] a fun B C => (∃ (b : Int), B = (iv b) ∧ K (.bool (b == 16)) C)

def qcg.ann : Ann := (.seq .l (.seq .l .l))

theorem qcg.con {b : D.Block} {f g h : OA} {i j k : Nat} {d : Int} {r : Bool} {w : World} (l : M.qeJ b d) (m : r = M.qcg b d) (n : Row el84 w f b.Code) (o : b.Code.length ≤ i) (p : RowW 52 el91 el3 w g b.Warps) (q : b.Warps.length ≤ j) (s : Row el3 w h b.Memory) (t : b.Memory.length ≤ k) :
    Cl 66 #[(.agg (bC f i g j h k b)), (iv d)] w (fun u v => u = (.bool r) ∧ Ext w v) := by
 have H := wp.qcg.math b d l
 refine begK mixed Tryz.f66 ann (vc f b.Code.length i g b.Warps.length j h b.Memory.length k b.Waiting b.Phase d) ?_
 unfold vc
 unfold wp.qcg at H
 refine qbx (fun C E F e x => ?_)
 have c := qac (Ext.refl w) x
 refine ⟨_, _, _, (e.a 0), _, _, _, (e.a 1), _, _, _, (e.a 2), _, (e.a 3), _, (e.a 4), ?_⟩
 obtain ⟨y, H⟩ := H
 obtain ⟨z, A, H⟩ := qaf H
 refine (qcu.con y A (n.ext c) o (p.ext c) q (s.ext c) t).mono ?_
 rintro _ G ⟨rfl, B⟩
 have c := qac c B
 refine ⟨z, rfl, ?_⟩
 cases m.trans H.symm
 exact ⟨rfl, c⟩
def qaQ.vc (f : OA) (g h : Nat) (i : OA) (j k : Nat) (l : OA) (m n : Nat) (o p b : Int) (w : World) (K : VK) : Prop :=
  newK w (.cells (vB f g h i j k l m n o p) 33) fun c d => ldB d (bx c) fun q r s t u v x y z A B => Cl 66 #[(.agg (vB q r s t u v x y z A B)), (iv b)] d fun C a => (∃ (e : Bool), C = (.bool e) ∧ qa1 e (ldS a (((bx c).add 1).add 0) fun D E H => (idx b E D fun F => ldS a (((F.add ((b.toNat) * 3)).add 1).add 0) fun I G J => K (.bool (decide (((G : Nat) : Int) > 1))) a)) (K (.bool false) a))

def qaQ.ann : Ann := (.seq .l (.seq .l .l))

theorem qaQ.con {b : D.Block} {f g i : OA} {j k l : Nat} {e : Int} {r : Bool} {w : World} (s : M.qdB b e) (m : r = M.qaQ b e) (t : Row el84 w f b.Code) (u : b.Code.length ≤ j) (n : RowW 52 el91 el3 w g b.Warps) (v : b.Warps.length ≤ k) (x : Row el3 w i b.Memory) (y : b.Memory.length ≤ l) :
    Cl 24 #[(.agg (bC f j g k i l b)), (iv e)] w (fun z A => z = (.bool r) ∧ Ext w A) := by
 have H := wp.qaQ.math b e s
 refine begK mixed Tryz.f24 ann (vc f b.Code.length j g b.Warps.length k i b.Memory.length l b.Waiting b.Phase e) ?_
 unfold vc
 unfold wp.qaQ at H
 refine qbx (fun K L N c B => ?_)
 have d := qac (Ext.refl w) B
 refine ⟨_, _, _, (c.a 0), _, _, _, (c.a 1), _, _, _, (c.a 2), _, (c.a 3), _, (c.a 4), ?_⟩
 obtain ⟨C, H⟩ := H
 obtain ⟨E, F, H⟩ := qaf H
 refine (qcg.con C F (t.ext d) u (n.ext d) v (x.ext d) y).mono ?_
 rintro _ O ⟨rfl, o⟩
 have c := c.ext o
 have d := qac d o
 refine ⟨E, rfl, ?_⟩
 apply brc H<;>intro h H
 ·refine ⟨_, _, _, (c.a 1), ?_⟩
  obtain ⟨⟨p, q⟩, H⟩ := H
  obtain ⟨G, I, P, Q, R, S, T, J, U, V, W, X, Y⟩ := RowW.at n p q
  refine ⟨p, q, G, I, _, _, _, (Ext.cell d J), ?_⟩
  cases m.trans H.symm
  exact ⟨rfl, d⟩
 cases m.trans H.symm
 exact ⟨rfl, d⟩
def qa2.vc (a : OA) (h i : Nat) (w : World) (K : VK) : Prop :=
  qa1 (Option.isNone a) (K (sv none 0 0) w) (Run Tryz.prog (Instr.buildSlice 30 0 #[]) w fun j k => ∃ (b : OA) (c d : Nat), j = .slice b c d ∧ Run Tryz.prog (Builtin.append_ #[30, 30] 30 #[(sv b c d), (sv a h i)]) k fun l m => ∃ (e : OA) (f g : Nat), l = .slice e f g ∧ K (sv e f g) m)

def qa2.ann : Ann := (.seq .l (.seq (.seq .l (.two (.seq .l .l) .l)) (.seq .l .l)))

theorem qa2.con {b r : List D.Ins} {c : OA} {e : Nat} {w : World} (n : M.qal b) (g : r = M.qa2 b) (i : Row el84 w c b) (z : b.length ≤ e) :
    Cl 127 #[(sv c b.length e)] w (fun o j => ∃ (k : OA) (l : Nat), o = (sv k r.length l) ∧ Own el84 j w.heap.size k l r ∧ Ext w j) := by
 have H := wp.qa2.math b n
 have a := Ext.refl w
 refine begK mixed Tryz.f127 ann (vc c b.length e) ?_
 unfold vc
 unfold wp.qa2 at H
 obtain ⟨p, m⟩ : ∃ q, q = Option.isNone c := ⟨_, rfl⟩
 have H := H p (fun s => Row.isNone (i.ext a) (m.symm.trans s))
 rw [← m]
 apply brc H<;>intro h H
 ·cases g.trans H.symm
  exact ⟨none, 0, rfl, Own.nil, a⟩
 refine qaY el84 ([] : List D.Ins) (fun _ => by kernel_rfl) rfl (fun A B f t => ?_)
 have d := f.mono a.size
 have a := qac a t
 obtain ⟨u, H⟩ := H
 refine appO qfI d (i.ext a) a.size u (fun v x C f y => ?_)
 have a := eapp a y d
 have d := f
 cases g.trans H.symm
 exact ⟨v, x, rfl, d, a⟩
def qcC.vc (V : OA) (g W : Nat) (k : Int) (w : World) (K : VK) : Prop :=
  newK w (.cells #[(iv 0), (sv none 0 0), (sv none 0 0)] 52) fun a l => qge Tryz.prog 24 32 32 l fun m n => newK n (.cells #[(iv 0), (sv none 0 0), (sv none 0 0)] 52) fun b o => qae (bx b) [(iv k), (sv none 0 0), (sv (some (bx m)) ((32 : Int).toNat) ((32 : Int).toNat))] 0 o fun c => qa1 (decide (((g : Nat) : Int) > 0)) (Run Tryz.prog (Instr.buildSlice 50 1 #[(0, (.agg #[(iv 0), (iv ((g : Nat) : Int)), (iv 255)]))]) c fun p q => ∃ (h : OA) (i j : Nat), p = .slice h i j ∧ qae ((bx b).add 1) [(sv h i j)] 0 q fun d => ldI d ((bx b).add 0) fun r => ldS d ((bx b).add 1) fun s t u => ldS d ((bx b).add 2) fun v x y => qae (bx a) [(iv r), (sv s t u), (sv v x y)] 0 d fun e => ldI e ((bx a).add 0) fun z => ldS e ((bx a).add 1) fun A B C => ldS e ((bx a).add 2) fun D E F => K (.agg #[(iv z), (sv A B C), (sv D E F)]) e) (ldI c ((bx b).add 0) fun G => ldS c ((bx b).add 1) fun H I J => ldS c ((bx b).add 2) fun L M N => qae (bx a) [(iv G), (sv H I J), (sv L M N)] 0 c fun f => ldI f ((bx a).add 0) fun O => ldS f ((bx a).add 1) fun P Q R => ldS f ((bx a).add 2) fun S T U => K (.agg #[(iv O), (sv P Q R), (sv S T U)]) f)

def qcC.ann : Ann := (.seq .l (.seq .l (.seq (.seq .l (.two .l .l)) (.seq .l .l))))

theorem qcC.con {g : List D.Ins} {p : OA} {q : Nat} {f : Int} {r : D.Warp} {w : World} (P : M.qfa g f) (B : r = M.qcC g f) (Y : Row el84 w p g) (Z : g.length ≤ q) :
    Cl 144 #[(sv p g.length q), (iv f)] w (fun Q s => ∃ (C : OA) (E : Nat) (F : OA) (G : Nat), Q = (.agg (wC C E F G r)) ∧ Own el91 s w.heap.size C E r.Frames ∧ Own el3 s w.heap.size F G r.Regs ∧ Ext w s) := by
 have H := wp.qcC.math g f P
 have b := Ext.refl w
 refine begK mixed Tryz.f144 ann (vc p g.length q f) ?_
 unfold vc
 unfold wp.qcC at H
 refine qbx (fun a0 a1 k R S => ?_)
 have c := R
 have k := Nat.le_trans b.size k
 have b := qac b S
 obtain ⟨⟨T, U⟩, H⟩ := H
 refine qgQ qgP T U (fun i a2 I J => ?_)
 have K := I.qaI c.lt
 have c := c.ext J
 have d := I.mono b.size
 have b := qac b J
 refine qbx (fun a3 a4 j t u => ?_)
 have L := c.ne j
 have N := d.qbI j
 have d := d.ext u
 have e := t
 have j := Nat.le_trans b.size j
 have b := qac b u
 refine stB e 0 #[(iv f), (sv none 0 0), (sv (some (bx i)) ((32 : Int).toNat) ((32 : Int).toNat))] (fun a5 t v => ?_)
 have c := (c.ext u).chg v L
 have x := d.chg v N
 have d := x
 have b := echg b v j
 have e := t
 apply brc H<;>intro h H
 ·refine qaY el91 ([(⟨0, (g.length : Int), 255⟩ : D.Frame)] : List D.Frame) (fun _ => by kernel_rfl) rfl (fun y a6 z l => ?_)
  have V := z.qaI c.lt
  have W := z.qaI e.lt
  have d := d.ext l
  have e := e.ext l
  have m := z.mono b.size
  have b := qac b l
  refine qd9 e (o := 1) (cs' := #[(iv f), (sv y 1 1), (sv (some (bx i)) ((32 : Int).toNat) ((32 : Int).toNat))]) rfl rfl (Nat.le_of_ble_eq_true rfl) rfl (fun a7 e n => ?_)
  have c := (c.ext l).chg n L
  have x := d.chg n N
  have X := m.chg n W
  have b := echg b n j
  refine ⟨_, (e.a 0), _, _, _, (e.a 1), _, _, _, (e.a 2), ?_⟩
  refine qd9 c (o := 0) (cs' := #[(iv f), (sv y 1 1), (sv (some (bx i)) ((32 : Int).toNat) ((32 : Int).toNat))]) rfl rfl (Nat.le_of_ble_eq_true rfl) rfl (fun a8 c A => ?_)
  have d := x.chg A K
  have m := X.chg A V
  have b := echg b A k
  refine ⟨_, (c.a 0), _, _, _, (c.a 1), _, _, _, (c.a 2), ?_⟩
  cases B.trans H.symm
  exact ⟨y, 1, (some (bx i)), ((32 : Int).toNat), (by first | rfl | (simp; done) | (simp; omega) | (simp [*]; done)), (by first | exact m | (simp only [bC, wC, List.length_set]; exact m)), (by first | exact d | (simp only [bC, wC, List.length_set]; exact d)), b⟩
 refine ⟨_, (e.a 0), _, _, _, (e.a 1), _, _, _, (e.a 2), ?_⟩
 refine qd9 c (o := 0) (cs' := #[(iv f), (sv none 0 0), (sv (some (bx i)) ((32 : Int).toNat) ((32 : Int).toNat))]) rfl rfl (Nat.le_of_ble_eq_true rfl) rfl (fun a9 c O => ?_)
 have d := d.chg O K
 have b := echg b O k
 refine ⟨_, (c.a 0), _, _, _, (c.a 1), _, _, _, (c.a 2), ?_⟩
 cases B.trans H.symm
 exact ⟨none, 0, (some (bx i)), ((32 : Int).toNat), (by first | rfl | (simp; done) | (simp; omega) | (simp [*]; done)), Own.nil, (by first | exact d | (simp only [bC, wC, List.length_set]; exact d)), b⟩
def qcb.vc (e : OA) (f g : Nat) (x1 : Int) (w : World) (K : VK) : Prop :=
  newK w (.cells zC 33) fun r a => qgl (σ := Addr × Unit) (fun h => (∃ b : Nat → Prop, ((Cl 127 #[(sv e f g)] a.drew fun ae k => (∃ (l : OA) (m n : Nat), ae = (sv l m n) ∧ qaS b a k ∧ ((qge Tryz.prog 24 32 32 k fun af s => qaS b a s ∧ newK s (.cells zC 33) fun t u => qaS b a u ∧ qae (bx t) [(sv l m n), (sv none 0 0), (sv (some (bx af)) ((32 : Int).toNat) ((32 : Int).toNat)), (iv 0), (iv 0)] 0 u fun ag => h ((bx t), ()) ag) ∧ (newK k (.cells zC 33) fun v x => qaS b a x ∧ qge Tryz.prog 24 32 32 x fun ah y => qaS b a y ∧ qae (bx v) [(sv l m n), (sv none 0 0), (sv (some (bx ah)) ((32 : Int).toNat) ((32 : Int).toNat)), (iv 0), (iv 0)] 0 y fun ai => h ((bx v), ()) ai) ∧ True))) ∧ (qge Tryz.prog 24 32 32 a.drew fun z o => qaS b a o ∧ ((Cl 127 #[(sv e f g)] o fun aj A => (∃ (B : OA) (C D : Nat), aj = (sv B C D) ∧ qaS b a A ∧ newK A (.cells zC 33) fun E F => qaS b a F ∧ qae (bx E) [(sv B C D), (sv none 0 0), (sv (some (bx z)) ((32 : Int).toNat) ((32 : Int).toNat)), (iv 0), (iv 0)] 0 F fun ak => h ((bx E), ()) ak)) ∧ (newK o (.cells zC 33) fun G H => qaS b a H ∧ Cl 127 #[(sv e f g)] H fun al I => (∃ (J : OA) (L M : Nat), al = (sv J L M) ∧ qaS b a I ∧ qae (bx G) [(sv J L M), (sv none 0 0), (sv (some (bx z)) ((32 : Int).toNat) ((32 : Int).toNat)), (iv 0), (iv 0)] 0 I fun am => h ((bx G), ()) am)) ∧ True)) ∧ (newK a.drew (.cells zC 33) fun i p => qaS b a p ∧ ((Cl 127 #[(sv e f g)] p fun an N => (∃ (O : OA) (P Q : Nat), an = (sv O P Q) ∧ qaS b a N ∧ qge Tryz.prog 24 32 32 N fun ao R => qaS b a R ∧ qae (bx i) [(sv O P Q), (sv none 0 0), (sv (some (bx ao)) ((32 : Int).toNat) ((32 : Int).toNat)), (iv 0), (iv 0)] 0 R fun ap => h ((bx i), ()) ap)) ∧ (qge Tryz.prog 24 32 32 p fun aq S => qaS b a S ∧ Cl 127 #[(sv e f g)] S fun ar T => (∃ (U : OA) (V W : Nat), ar = (sv U V W) ∧ qaS b a T ∧ qae (bx i) [(sv U V W), (sv none 0 0), (sv (some (bx aq)) ((32 : Int).toNat) ((32 : Int).toNat)), (iv 0), (iv 0)] 0 T fun au => h ((bx i), ()) au)) ∧ True)) ∧ True))) fun d av => qdS (σ := Int × Unit) (fun q c aw => qa1 (decide (q.1 < x1)) ((∃ j : Nat → Prop, ldSM j c (d.1.add 1) 0 fun ax ay az => Cl 144 #[(sv e f g), (iv q.1)] c.drew fun aA X => (∃ (Y : Int), True ∧ ∃ (Z : OA) (a0 a1 : Nat), True ∧ ∃ (a2 : OA) (a3 a4 : Nat), True ∧ aA = (.agg #[(iv Y), (sv Z a0 a1), (sv a2 a3 a4)]) ∧ qaS j c X ∧ Run Tryz.prog (Instr.buildSlice 31 1 #[(0, (.agg #[(iv Y), (sv Z a0 a1), (sv a2 a3 a4)]))]) X fun aB a5 => ∃ (a6 : OA) (a7 a8 : Nat), aB = .slice a6 a7 a8 ∧ qaS j c a5 ∧ Run Tryz.prog (Builtin.append_ #[31, 31] 31 #[(sv ax ay az), (sv a6 a7 a8)]) a5 fun aC a9 => ∃ (aa : OA) (ab ac : Nat), aC = .slice aa ab ac ∧ qaS j c a9 ∧ qae (d.1.add 1) [(sv aa ab ac)] 0 a9 fun aD => aw ((wrap .i64 (q.1 + 1)), ()) aD))) (ldS c (d.1.add 0) fun aE aF aG => ldS c (d.1.add 1) fun aH aI aJ => ldS c (d.1.add 2) fun aK aL aM => ldI c (d.1.add 3) fun aN => ldI c (d.1.add 4) fun aO => qae (bx r) [(sv aE aF aG), (sv aH aI aJ), (sv aK aL aM), (iv aN), (iv aO)] 0 c fun ad => ldB ad (bx r) fun aP aQ aR aS aT aU aV aW aX aY aZ => K (.agg (vB aP aQ aR aS aT aU aV aW aX aY aZ)) ad)) (0, ()) av

def qcb.ann : Ann := (.seq .l (.cut [(5, .ptr)] .l (.seq (.seq .l (.one (.loop [(12, .int .i64)] (.seq .l (.seq (.two .l .l) (.seq (.one (.seq .l .l)) .l)))))) (.seq .l .l))))

theorem qcb.con {B : List D.Ins} {A0 : OA} {c0 : Nat} {x1 : Int} {r : D.Block} {w : World} (hp : M.qeQ B x1) (hr : r = M.qcb B x1) (Q : Row el84 w A0 B) (R : B.length ≤ c0) :
    Cl 86 #[(sv A0 B.length c0), (iv x1)] w (fun v_ l => ∃ (ba : OA) (bb : Nat) (aH : OA) (bc : Nat) (bd : Nat → Prop) (aI : OA) (be : Nat), v_ = (.agg (bC ba bb aH bc aI be r)) ∧ Own el84 l w.heap.size ba bb r.Code ∧ OwnW 52 el91 el3 l w.heap.size bd aH bc r.Warps ∧ Own el3 l w.heap.size aI be r.Memory ∧ Dis (InW aH bd) (InB aI) ∧ Ext w l) := by
 have H := wp.qcb.math B x1 hp
 have b := Ext.refl w
 refine begK mixed Tryz.f86 ann (vc A0 B.length c0 x1) ?_
 unfold vc
 unfold wp.qcb at H
 refine qbx (fun aJ aK L2 P2 bz => ?_)
 have c := P2
 have L2 := Nat.le_trans b.size L2
 have b := qac b bz
 obtain ⟨bA, bB, H⟩ := qdJ H
 refine ⟨fun z_ l => ∃ (v : List D.Ins) (a1 : List D.Warp) (x : List Int) (ag ah : Int) (S : Nat) (y : OA) (z : Nat) (a2 : OA) (ai : Nat) (aj : Nat → Prop) (p : OA) (A : Nat), z_ = ((bx S), ()) ∧ bA (v, a1, x, ag, ah, ()) ∧ Ext w l ∧ Blk l S 33 #[(sv y v.length z), (sv a2 a1.length ai), (sv p x.length A), (iv ag), (iv ah)] ∧ w.heap.size ≤ S ∧ Own el84 l w.heap.size y z v ∧ OwnW 52 el91 el3 l w.heap.size aj a2 ai a1 ∧ Own el3 l w.heap.size p A x ∧ Blk l aJ 33 zC ∧ aJ ≠ S ∧ Dis (InW a2 aj) (InB p), ?_, ?_⟩
 ·refine ⟨(fun _ => False), ?_⟩
  refine And.intro ?_ ?_
  ·have H := H.1
   have c := c.ext (Ext.drew _)
   have b := qac b (Ext.drew _)
   have d := (Chg.refl (fun _ => False) aK).then (Ext.drew _)
   obtain ⟨bD, H⟩ := H
   obtain ⟨a3, bE, H⟩ := qaf H
   refine (qa2.con bD bE (Q.ext b) R).mono ?_
   rintro _ cV ⟨a4, a5, rfl, bF, aL⟩
   have c := c.ext aL
   have q := bF.mono b.size
   have b := qac b aL
   have d := d.then aL
   refine ⟨a4, a3.length, a5, rfl, qaj d, ?_⟩
   refine And.intro ?_ ?_
   ·have H := H.1
    obtain ⟨⟨bG, bH⟩, H⟩ := H
    refine qgQ qgP bG bH (fun bI cW bJ ak => ?_)
    have c := c.ext ak
    have q := q.ext ak
    have al := bJ.mono b.size
    have b := qac b ak
    have d := d.then ak
    refine ⟨qaj d, ?_⟩
    refine qbx (fun bK cX C bL a6 => ?_)
    have bf := c.ne C
    have bM := q.qbI C
    have bN := al.qbI C
    have am := bL
    have C := Nat.le_trans b.size C
    have b := qac b a6
    have d := d.then a6
    refine ⟨qaj d, ?_⟩
    refine qd9 am (o := 0) (cs' := #[(sv a4 a3.length a5), (sv none 0 0), (sv (some (bx bI)) ((32 : Int).toNat) ((32 : Int).toNat)), (iv 0), (iv 0)]) rfl rfl (Nat.le_of_ble_eq_true rfl) rfl (fun cY am an => ?_)
    have c := (c.ext a6).chg an bf
    have q := (q.ext a6).chg an bM
    have al := (al.ext a6).chg an bN
    have b := echg b an C
    exact ⟨a3, [], _, 0, 0, bK, a4, a5, none, 0, (fun _ => False), _, _, rfl, H, b, (by first | exact am | (simp only [bC, wC, List.length_set]; exact am)), C, q, OwnW.nil, al, c, bf, qfl⟩
   refine And.intro ?_ ?_
   ·have H := H.2.1
    refine qbx (fun bO cZ T bP ao => ?_)
    have bg := c.ne T
    have bQ := q.qbI T
    have E := bP
    have T := Nat.le_trans b.size T
    have b := qac b ao
    have d := d.then ao
    refine ⟨qaj d, ?_⟩
    obtain ⟨⟨bR, bS⟩, H⟩ := H
    refine qgQ qgP bR bS (fun bT d0 bh a7 => ?_)
    have bU := bh.qaI E.lt
    have E := E.ext a7
    have aM := bh.mono b.size
    have b := qac b a7
    have d := d.then a7
    refine ⟨qaj d, ?_⟩
    refine qd9 E (o := 0) (cs' := #[(sv a4 a3.length a5), (sv none 0 0), (sv (some (bx bT)) ((32 : Int).toNat) ((32 : Int).toNat)), (iv 0), (iv 0)]) rfl rfl (Nat.le_of_ble_eq_true rfl) rfl (fun d1 E ap => ?_)
    have c := ((c.ext ao).ext a7).chg ap bg
    have q := ((q.ext ao).ext a7).chg ap bQ
    have aM := aM.chg ap bU
    have b := echg b ap T
    exact ⟨a3, [], _, 0, 0, bO, a4, a5, none, 0, (fun _ => False), _, _, rfl, H, b, (by first | exact E | (simp only [bC, wC, List.length_set]; exact E)), T, q, OwnW.nil, aM, c, bg, qfl⟩
   exact trivial
  refine And.intro ?_ ?_
  ·have H := H.2.1
   have b := qac b (Ext.drew _)
   obtain ⟨⟨bV, bW⟩, H⟩ := H
   refine qgQ qgP bV bW (fun bi d2 bX aO => ?_)
   have c := (c.ext (Ext.drew _)).ext aO
   have s := bX.mono b.size
   have b := qac b aO
   have d := ((Chg.refl (fun _ => False) aK).then (Ext.drew _)).then aO
   refine ⟨qaj d, ?_⟩
   refine And.intro ?_ ?_
   ·have H := H.1
    obtain ⟨bY, H⟩ := H
    obtain ⟨aP, bZ, H⟩ := qaf H
    refine (qa2.con bY bZ (Q.ext b) R).mono ?_
    rintro _ d3 ⟨aQ, aR, rfl, c1, aq⟩
    have c := c.ext aq
    have s := s.ext aq
    have ar := c1.mono b.size
    have b := qac b aq
    have d := d.then aq
    refine ⟨aQ, aP.length, aR, rfl, qaj d, ?_⟩
    refine qbx (fun c2 d4 F c3 a8 => ?_)
    have bj := c.ne F
    have c4 := s.qbI F
    have c5 := ar.qbI F
    have au := c3
    have F := Nat.le_trans b.size F
    have b := qac b a8
    have d := d.then a8
    refine ⟨qaj d, ?_⟩
    refine qd9 au (o := 0) (cs' := #[(sv aQ aP.length aR), (sv none 0 0), (sv (some (bx bi)) ((32 : Int).toNat) ((32 : Int).toNat)), (iv 0), (iv 0)]) rfl rfl (Nat.le_of_ble_eq_true rfl) rfl (fun d5 au av => ?_)
    have c := (c.ext a8).chg av bj
    have s := (s.ext a8).chg av c4
    have ar := (ar.ext a8).chg av c5
    have b := echg b av F
    exact ⟨aP, [], _, 0, 0, c2, aQ, aR, none, 0, (fun _ => False), _, _, rfl, H, b, (by first | exact au | (simp only [bC, wC, List.length_set]; exact au)), F, ar, OwnW.nil, s, c, bj, qfl⟩
   refine And.intro ?_ ?_
   ·have H := H.2.1
    refine qbx (fun c6 d6 U c7 aw => ?_)
    have bk := c.ne U
    have c8 := s.qbI U
    have G := c7
    have U := Nat.le_trans b.size U
    have b := qac b aw
    have d := d.then aw
    refine ⟨qaj d, ?_⟩
    obtain ⟨c9, H⟩ := H
    obtain ⟨aS, ca, H⟩ := qaf H
    refine (qa2.con c9 ca (Q.ext b) R).mono ?_
    rintro _ d7 ⟨aT, aU, rfl, bl, a9⟩
    have cb := bl.qaI G.lt
    have G := G.ext a9
    have aV := bl.mono b.size
    have b := qac b a9
    have d := d.then a9
    refine ⟨aT, aS.length, aU, rfl, qaj d, ?_⟩
    refine qd9 G (o := 0) (cs' := #[(sv aT aS.length aU), (sv none 0 0), (sv (some (bx bi)) ((32 : Int).toNat) ((32 : Int).toNat)), (iv 0), (iv 0)]) rfl rfl (Nat.le_of_ble_eq_true rfl) rfl (fun d8 G ax => ?_)
    have c := ((c.ext aw).ext a9).chg ax bk
    have s := ((s.ext aw).ext a9).chg ax c8
    have aV := aV.chg ax cb
    have b := echg b ax U
    exact ⟨aS, [], _, 0, 0, c6, aT, aU, none, 0, (fun _ => False), _, _, rfl, H, b, (by first | exact G | (simp only [bC, wC, List.length_set]; exact G)), U, aV, OwnW.nil, s, c, bk, qfl⟩
   exact trivial
  refine And.intro ?_ ?_
  ·have H := H.2.2.1
   have c := c.ext (Ext.drew _)
   have b := qac b (Ext.drew _)
   refine qbx (fun bm d9 I cc aW => ?_)
   have ay := c.ne I
   have c := c.ext aW
   have k := cc
   have I := Nat.le_trans b.size I
   have b := qac b aW
   have d := ((Chg.refl (fun _ => False) aK).then (Ext.drew _)).then aW
   refine ⟨qaj d, ?_⟩
   refine And.intro ?_ ?_
   ·have H := H.1
    obtain ⟨cd, H⟩ := H
    obtain ⟨aX, ce, H⟩ := qaf H
    refine (qa2.con cd ce (Q.ext b) R).mono ?_
    rintro _ da ⟨aY, aZ, rfl, bn, az⟩
    have cf := bn.qaI k.lt
    have k := k.ext az
    have b0 := bn.mono b.size
    have b := qac b az
    have d := d.then az
    refine ⟨aY, aX.length, aZ, rfl, qaj d, ?_⟩
    obtain ⟨⟨cg, ch⟩, H⟩ := H
    refine qgQ qgP cg ch (fun ci db bo aa => ?_)
    have cj := bo.qaI k.lt
    have k := k.ext aa
    have b1 := bo.mono b.size
    have b := qac b aa
    have d := d.then aa
    refine ⟨qaj d, ?_⟩
    refine qd9 k (o := 0) (cs' := #[(sv aY aX.length aZ), (sv none 0 0), (sv (some (bx ci)) ((32 : Int).toNat) ((32 : Int).toNat)), (iv 0), (iv 0)]) rfl rfl (Nat.le_of_ble_eq_true rfl) rfl (fun dc k aA => ?_)
    have c := ((c.ext az).ext aa).chg aA ay
    have b0 := (b0.ext aa).chg aA cf
    have b1 := b1.chg aA cj
    have b := echg b aA I
    exact ⟨aX, [], _, 0, 0, bm, aY, aZ, none, 0, (fun _ => False), _, _, rfl, H, b, (by first | exact k | (simp only [bC, wC, List.length_set]; exact k)), I, b0, OwnW.nil, b1, c, ay, qfl⟩
   refine And.intro ?_ ?_
   ·have H := H.2.1
    obtain ⟨⟨ck, cl⟩, H⟩ := H
    refine qgQ qgP ck cl (fun cm dd bp aB => ?_)
    have cn := bp.qaI k.lt
    have k := k.ext aB
    have b2 := bp.mono b.size
    have b := qac b aB
    have d := d.then aB
    refine ⟨qaj d, ?_⟩
    obtain ⟨co, H⟩ := H
    obtain ⟨b3, cp, H⟩ := qaf H
    refine (qa2.con co cp (Q.ext b) R).mono ?_
    rintro _ de ⟨b4, b5, rfl, bq, ab⟩
    have cq := bq.qaI k.lt
    have k := k.ext ab
    have b6 := bq.mono b.size
    have b := qac b ab
    have d := d.then ab
    refine ⟨b4, b3.length, b5, rfl, qaj d, ?_⟩
    refine qd9 k (o := 0) (cs' := #[(sv b4 b3.length b5), (sv none 0 0), (sv (some (bx cm)) ((32 : Int).toNat) ((32 : Int).toNat)), (iv 0), (iv 0)]) rfl rfl (Nat.le_of_ble_eq_true rfl) rfl (fun df k aC => ?_)
    have c := ((c.ext aB).ext ab).chg aC ay
    have b2 := (b2.ext ab).chg aC cn
    have b6 := b6.chg aC cq
    have b := echg b aC I
    exact ⟨b3, [], _, 0, 0, bm, b4, b5, none, 0, (fun _ => False), _, _, rfl, H, b, (by first | exact k | (simp only [bC, wC, List.length_set]; exact k)), I, b6, OwnW.nil, b2, c, ay, qfl⟩
   exact trivial
  exact trivial
 rintro _ dg ⟨v, a1, x, ag, ah, S, y, z, a2, ai, aj, p, A, rfl, H, b, i, cr, m, cs, j, c, ct, cu⟩
 have H := bB _ H
 try dsimp only at H ⊢
 obtain ⟨cv, ⟨cw, cx⟩, br⟩ := H
 refine ⟨fun m_ z_ l => ∃ (b7 : Int) (V : List D.Warp) (W X : Int) (t : OA) (ac : Nat) (Y : Nat → Prop), z_ = (b7, ()) ∧ cv m_ (b7, V, W, X, ()) ∧ Ext w l ∧ Blk l S 33 #[(sv y v.length z), (sv t V.length ac), (sv p x.length A), (iv W), (iv X)] ∧ OwnW 52 el91 el3 l w.heap.size Y t ac V ∧ Blk l aJ 33 zC ∧ Own el84 l w.heap.size y z v ∧ Own el3 l w.heap.size p A x ∧ Dis (InW t Y) (InB p), ⟨cw, 0, a1, ag, ah, a2, ai, aj, rfl, cx, b, i, cs, c, m, j, cu⟩, ?_⟩
 rintro cy _ cz ⟨b7, V, W, X, t, ac, Y, rfl, bs, b, i, f, c, m, j, ad⟩
 have H := br cy _ bs
 clear br bs
 try dsimp only at H ⊢
 apply brc H<;>intro h H
 ·refine ⟨(InB t), _, _, _, ⟨(qi1 (fun e => (f.qes i (by decide) (by decide) (by decide)) (Or.inl e)) (by first | rfl | (simp only [qeF]))), (i.a 1)⟩, ?_⟩
  have c := c.ext (Ext.drew _)
  have i := i.ext (Ext.drew _)
  have m := m.ext (Ext.drew _)
  have j := j.ext (Ext.drew _)
  have f := f.ext (Ext.drew _)
  have b := qac b (Ext.drew _)
  have n := (Chg.refl (InB t) cz).then (Ext.drew _)
  obtain ⟨cA, H⟩ := H
  obtain ⟨ae, cB, H⟩ := qaf H
  refine (qcC.con cA cB (Q.ext b) R).mono ?_
  rintro _ dh ⟨Z, bt, a0, bu, rfl, aD, aE, J⟩
  have cC := aN j aD
  have cD := f.qgr aD (Nat.le_refl _)
  have cE := aN j aE
  have cF := f.qgr aE (Nat.le_refl _)
  have j := j.ext J
  have f := f.ext J
  have cG := (aD.mono n.size).low
  have cH := (aE.mono n.size).low
  have cI := aD.mono b.size
  have cJ := aE.mono b.size
  have b := qac b J
  have n := n.then J
  refine ⟨ae.Number, trivial, Z, ae.Frames.length, bt, trivial, a0, ae.Regs.length, bu, trivial, rfl, qaj n, ?_⟩
  refine qaY (elH 52) ([⟨ae, Z, bt, a0, bu⟩] : List HW) (fun _ => by kernel_rfl) rfl (fun b8 di aF u => ?_)
  have cK : OwnW 52 el91 el3 _ _ _ _ _ _ := OwnW.one (aF.mono b.size) (cI.ext u) (cJ.ext u)
  have cL : Dis (InW b8 (fun g => InB Z g ∨ InB a0 g)) (InB p) := fun g e K => e.elim (fun e => (Own.qdL j aF (Nat.le_refl _)).inb g K e) (fun e => e.elim (fun e => ((cC).symm).inb g e K) (fun e => ((cE).symm).inb g e K))
  have cM : Dis (InW b8 (fun g => InB Z g ∨ InB a0 g)) (InW t Y) := fun g e K => e.elim (fun e => f.qgr aF (Nat.le_refl _) g K e) (fun e => e.elim (fun e => cD g K e) (fun e => cF g K e))
  have c := (c.ext J).ext u
  have i := (i.ext J).ext u
  have m := (m.ext J).ext u
  have j := j.ext u
  have f := f.ext u
  have dj : ∀ g, InW b8 (fun g => InB Z g ∨ InB a0 g) g → _ := fun g e => e.elim ((aF.mono n.size).low g) (fun e => e.elim (fun e => cG g e) (fun e => cH g e))
  have cN := cK
  have b := qac b u
  have n := n.then u
  refine ⟨qaj n, ?_⟩
  obtain ⟨cO, H⟩ := H
  refine qmd qmY qmY.under f cN (cM).symm (by decide) (by decide) b.size rfl (by first | rfl | omega | (simp; done) | (simp; omega)) cO (fun bv bw dk cP L => ?_)
  have c := c.app L (fun N O P => (f.qes c (by decide) (by decide) (by decide)) (Or.inl ⟨N, O, P⟩))
  have i := i.app L (fun N O P => (f.qes i (by decide) (by decide) (by decide)) (Or.inl ⟨N, O, P⟩))
  have m := m.app L (fun N b_ O P b9 => (f.qhV m (by decide) (by decide) (by decide)) _ (Or.inl ⟨b_, P, rfl⟩) ⟨N, O, b9⟩)
  have cQ := qmm ad cL L j
  have j := j.app L (fun N b_ O P b9 => ad _ (Or.inl ⟨b_, P, rfl⟩) ⟨N, O, b9⟩)
  have ad := cQ
  have n := n.app L (fun g e => (Or.inr e))
  have b := qnM b L f
  have f := cP
  refine ⟨qaj n, ?_⟩
  refine stB i 1 #[(sv y v.length z), (sv bv (((V ++ ([ae] : List D.Warp))).length) bw), (sv p x.length A), (iv W), (iv X)] (fun dl cR af => ?_)
  have c := c.chg af ct
  have m := m.chg af (m.qa6 i (by decide))
  have j := j.chg af (j.qa6 i (by decide))
  have f := f.chg af (f.qes i (by decide) (by decide) (by decide))
  have b := echg b af cr
  have i := cR
  obtain ⟨cS, cT, cU⟩ := H
  exact ⟨cS, cT, _, _, W, X, bv, bw, (fun g => Y g ∨ (fun g => InB Z g ∨ InB a0 g) g), rfl, cU, b, i, f, c, m, j, ad⟩
 refine ⟨_, _, _, (i.a 0), _, _, _, (i.a 1), _, _, _, (i.a 2), _, (i.a 3), _, (i.a 4), ?_⟩
 refine stB c 0 #[(sv y v.length z), (sv t V.length ac), (sv p x.length A), (iv W), (iv X)] (fun dm P2 aG => ?_)
 have m := m.chg aG (m.qa6 c (by decide))
 have j := j.chg aG (j.qa6 c (by decide))
 have f := f.chg aG (f.qes c (by decide) (by decide) (by decide))
 have b := echg b aG L2
 have c := P2
 refine ⟨_, _, _, (c.a 0), _, _, _, (c.a 1), _, _, _, (c.a 2), _, (c.a 3), _, (c.a 4), ?_⟩
 cases hr.trans H.symm
 exact ⟨y, z, t, ac, Y, p, A, rfl, m, f, j, ad, b⟩
def qbR.vc (b : OA) (c d : Nat) (e : Int) (w : World) (K : VK) : Prop :=
  newK w (.cells zC 33) fun a y => Cl 75 #[(sv b c d)] y fun z f => (∃ (g : Bool), z = (.bool g) ∧ qa1 (!g) (qae (bx a) [(sv none 0 0), (sv none 0 0), (sv none 0 0), (iv 0), (iv 0)] 0 f fun h => ldB h (bx a) fun A B C D E F G H I J L => K (.tuple #[(.agg (vB A B C D E F G H I J L)), (.bool false)]) h) (Cl 76 #[(iv e)] f fun M i => (∃ (j : Bool), M = (.bool j) ∧ qa1 (!j) (qae (bx a) [(sv none 0 0), (sv none 0 0), (sv none 0 0), (iv 0), (iv 0)] 0 i fun k => ldB k (bx a) fun N O P Q R S T U V W X => K (.tuple #[(.agg (vB N O P Q R S T U V W X)), (.bool false)]) k) (Cl 86 #[(sv b c d), (iv e)] i fun Y Z => (∃ (l : OA) (m n : Nat), True ∧ ∃ (o : OA) (p q : Nat), True ∧ ∃ (r : OA) (s t : Nat), True ∧ ∃ (u : Int), True ∧ ∃ (v : Int), True ∧ Y = (.agg (vB l m n o p q r s t u v)) ∧ qae (bx a) [(sv l m n), (sv o p q), (sv r s t), (iv u), (iv v)] 0 Z fun x => ldB x (bx a) fun a0 a1 a2 a3 a4 a5 a6 a7 a8 a9 aa => K (.tuple #[(.agg (vB a0 a1 a2 a3 a4 a5 a6 a7 a8 a9 aa)), (.bool true)]) x)))))

def qbR.ann : Ann := (.seq .l (.seq (.seq .l (.two (.seq .l .l) .l)) (.seq .l .l)))

theorem qbR.con {d : List D.Ins} {k : OA} {l : Nat} {f : Int} {r : D.Block × Bool} {w : World} (R : M.qe0 d f) (m : r = M.qbR d f) (B : Row el84 w k d) (C : d.length ≤ l) :
    Cl 38 #[(sv k d.length l), (iv f)] w (fun S i => ∃ (E : OA) (F : Nat) (n : OA) (G : Nat) (I : Nat → Prop) (p : OA) (J : Nat), S = (.tuple #[(.agg (bC E F n G p J r.1)), (.bool r.2)]) ∧ Own el84 i w.heap.size E F r.1.Code ∧ OwnW 52 el91 el3 i w.heap.size I n G r.1.Warps ∧ Own el3 i w.heap.size p J r.1.Memory ∧ Dis (InW n I) (InB p) ∧ Ext w i) := by
 have H := wp.qbR.math d f R
 have c := Ext.refl w
 refine begK mixed Tryz.f38 ann (vc k d.length l f) ?_
 unfold vc
 unfold wp.qbR at H
 refine qbx (fun a9 aa g T U => ?_)
 have g := Nat.le_trans c.size g
 have c := qac c U
 obtain ⟨V, H⟩ := H
 obtain ⟨W, X, H⟩ := qaf H
 refine (qaD.con V X (B.ext c) C).mono ?_
 rintro _ ab ⟨rfl, K⟩
 have b := T.ext K
 have c := qac c K
 refine ⟨W, rfl, ?_⟩
 apply brc H<;>intro h H
 ·refine qd9 b (o := 0) (cs' := zC) rfl rfl (Nat.le_of_ble_eq_true rfl) rfl (fun ac b Y => ?_)
  have c := echg c Y g
  refine ⟨_, _, _, (b.a 0), _, _, _, (b.a 1), _, _, _, (b.a 2), _, (b.a 3), _, (b.a 4), ?_⟩
  cases m.trans H.symm
  exact ⟨none, 0, none, 0, (fun _ => False), none, 0, rfl, Own.nil, OwnW.nil, Own.nil, qfl, c⟩
 obtain ⟨Z, a0, H⟩ := qaf H
 refine (qaW.con a0 ).mono ?_
 rintro _ ad ⟨rfl, L⟩
 have b := b.ext L
 have c := qac c L
 refine ⟨Z, rfl, ?_⟩
 apply brc H<;>intro h H
 ·refine qd9 b (o := 0) (cs' := zC) rfl rfl (Nat.le_of_ble_eq_true rfl) rfl (fun ae b a1 => ?_)
  have c := echg c a1 g
  refine ⟨_, _, _, (b.a 0), _, _, _, (b.a 1), _, _, _, (b.a 2), _, (b.a 3), _, (b.a 4), ?_⟩
  cases m.trans H.symm
  exact ⟨none, 0, none, 0, (fun _ => False), none, 0, rfl, Own.nil, OwnW.nil, Own.nil, qfl, c⟩
 obtain ⟨a2, H⟩ := H
 obtain ⟨e, a3, H⟩ := qaf H
 refine (qcb.con a2 a3 (B.ext c) C).mono ?_
 rintro _ af ⟨q, s, t, u, a4, v, x, rfl, N, O, P, a5, Q⟩
 have a6 := N.qaI b.lt
 have a7 := O.qhm b (Nat.le_refl _)
 have a8 := P.qaI b.lt
 have b := b.ext Q
 have y := N.mono c.size
 have z := O.mono c.size
 have A := P.mono c.size
 have c := qac c Q
 refine ⟨q, e.Code.length, s, trivial, t, e.Warps.length, u, trivial, v, e.Memory.length, x, trivial, e.Waiting, trivial, e.Phase, trivial, rfl, ?_⟩
 refine qd9 b (o := 0) (cs' := (bC q s t u v x e)) rfl rfl (Nat.le_of_ble_eq_true rfl) rfl (fun ag b j => ?_)
 have y := y.chg j a6
 have z := z.chg j a7
 have A := A.chg j a8
 have c := echg c j g
 refine ⟨_, _, _, (b.a 0), _, _, _, (b.a 1), _, _, _, (b.a 2), _, (b.a 3), _, (b.a 4), ?_⟩
 cases m.trans H.symm
 exact ⟨q, s, t, u, a4, v, x, rfl, y, z, A, a5, c⟩
def qaa.vc (a : OA) (h i : Nat) (w : World) (K : VK) : Prop :=
  qa1 (Option.isNone a) (K (sv none 0 0) w) (Run Tryz.prog (Instr.buildSlice 50 0 #[]) w fun j k => ∃ (b : OA) (c d : Nat), j = .slice b c d ∧ Run Tryz.prog (Builtin.append_ #[50, 50] 50 #[(sv b c d), (sv a h i)]) k fun l m => ∃ (e : OA) (f g : Nat), l = .slice e f g ∧ K (sv e f g) m)

def qaa.ann : Ann := (.seq .l (.seq (.seq .l (.two (.seq .l .l) .l)) (.seq .l .l)))

theorem qaa.con {b r : List D.Frame} {c : OA} {e : Nat} {w : World} (n : M.qaO b) (g : r = M.qaa b) (i : Row el91 w c b) (z : b.length ≤ e) :
    Cl 170 #[(sv c b.length e)] w (fun o j => ∃ (k : OA) (l : Nat), o = (sv k r.length l) ∧ Own el91 j w.heap.size k l r ∧ Ext w j) := by
 have H := wp.qaa.math b n
 have a := Ext.refl w
 refine begK mixed Tryz.f170 ann (vc c b.length e) ?_
 unfold vc
 unfold wp.qaa at H
 obtain ⟨p, m⟩ : ∃ q, q = Option.isNone c := ⟨_, rfl⟩
 have H := H p (fun s => Row.isNone (i.ext a) (m.symm.trans s))
 rw [← m]
 apply brc H<;>intro h H
 ·cases g.trans H.symm
  exact ⟨none, 0, rfl, Own.nil, a⟩
 refine qaY el91 ([] : List D.Frame) (fun _ => by kernel_rfl) rfl (fun A B f t => ?_)
 have d := f.mono a.size
 have a := qac a t
 obtain ⟨u, H⟩ := H
 refine appO qkw d (i.ext a) a.size u (fun v x C f y => ?_)
 have a := eapp a y d
 have d := f
 cases g.trans H.symm
 exact ⟨v, x, rfl, d, a⟩
def qc9.vc (Q : Int) (R : OA) (S T : Nat) (U : OA) (V W : Nat) (w : World) (K : VK) : Prop :=
  newK w (.cells #[(iv Q), (sv R S T), (sv U V W)] 52) fun a X => newK X (.cells #[(iv 0), (sv none 0 0), (sv none 0 0)] 52) fun b c => ((∃ (j : OA) (k l : Nat), c.drew.cell? (((bx a).add 1).add 0) = some (sv j k l) ∧ ((Cl 170 #[(sv j k l)] c.drew fun Y m => (∃ (n : OA) (o p : Nat), Y = (sv n o p) ∧ ((ldS m (((bx a).add 2).add 0) fun Z a0 a1 => ((Cl 128 #[(sv Z a0 a1)] m fun a2 a3 => (∃ (q : OA) (r s : Nat), a2 = (sv q r s) ∧ ((qae ((bx a).add 1) [(sv n o p)] 0 a3 fun a4 => ((qae ((bx a).add 2) [(sv q r s)] 0 a4 fun d => ldI d ((bx a).add 0) fun a5 => ldS d ((bx a).add 1) fun a6 a7 a8 => ldS d ((bx a).add 2) fun a9 aa ab => qae (bx b) [(iv a5), (sv a6 a7 a8), (sv a9 aa ab)] 0 d fun e => ldI e ((bx b).add 0) fun ac => ldS e ((bx b).add 1) fun ad ae af => ldS e ((bx b).add 2) fun ag ah ai => K (.agg #[(iv ac), (sv ad ae af), (sv ag ah ai)]) e) ∧ True)) ∧ True))) ∧ True)) ∧ True))) ∧ (∃ (t : OA) (u v : Nat), c.drew.cell? (((bx a).add 2).add 0) = some (sv t u v) ∧ ((Cl 170 #[(sv j k l)] c.drew fun aj ak => (∃ (x : OA) (y z : Nat), aj = (sv x y z) ∧ ((Cl 128 #[(sv t u v)] ak fun al am => (∃ (A : OA) (B C : Nat), al = (sv A B C) ∧ ((qae ((bx a).add 1) [(sv x y z)] 0 am fun an => ((qae ((bx a).add 2) [(sv A B C)] 0 an fun f => ldI f ((bx a).add 0) fun ao => ldS f ((bx a).add 1) fun ap aq ar => ldS f ((bx a).add 2) fun au av aw => qae (bx b) [(iv ao), (sv ap aq ar), (sv au av aw)] 0 f fun g => ldI g ((bx b).add 0) fun ax => ldS g ((bx b).add 1) fun ay az aA => ldS g ((bx b).add 2) fun aB aC aD => K (.agg #[(iv ax), (sv ay az aA), (sv aB aC aD)]) g) ∧ True)) ∧ True))) ∧ True))) ∧ True)) ∧ True)) ∧ (∃ (D : OA) (E F : Nat), c.drew.cell? (((bx a).add 2).add 0) = some (sv D E F) ∧ ((∃ (G : OA) (H I : Nat), c.drew.cell? (((bx a).add 1).add 0) = some (sv G H I) ∧ ((Cl 170 #[(sv G H I)] c.drew fun aE aF => (∃ (J : OA) (L M : Nat), aE = (sv J L M) ∧ ((Cl 128 #[(sv D E F)] aF fun aG aH => (∃ (N : OA) (O P : Nat), aG = (sv N O P) ∧ ((qae ((bx a).add 1) [(sv J L M)] 0 aH fun aI => ((qae ((bx a).add 2) [(sv N O P)] 0 aI fun h => ldI h ((bx a).add 0) fun aJ => ldS h ((bx a).add 1) fun aK aL aM => ldS h ((bx a).add 2) fun aN aO aP => qae (bx b) [(iv aJ), (sv aK aL aM), (sv aN aO aP)] 0 h fun i => ldI i ((bx b).add 0) fun aQ => ldS i ((bx b).add 1) fun aR aS aT => ldS i ((bx b).add 2) fun aU aV aW => K (.agg #[(iv aQ), (sv aR aS aT), (sv aU aV aW)]) i) ∧ True)) ∧ True))) ∧ True))) ∧ True)) ∧ True)) ∧ True)

def qc9.ann : Ann := (.seq .l (.seq .each (.seq .l .l)))

theorem qc9.con {e r : D.Warp} {W k : OA} {X l : Nat} {w : World} (hp : M.qeZ e) (Y : r = M.qc9 e) (Z : Row el91 w W e.Frames) (a0 : e.Frames.length ≤ X) (a1 : Row el3 w k e.Regs) (a2 : e.Regs.length ≤ l) :
    Cl 129 #[(.agg (wC W X k l e))] w (fun v_ w_ => ∃ (aj : OA) (ak : Nat) (al : OA) (am : Nat), v_ = (.agg (wC aj ak al am r)) ∧ Own el91 w_ w.heap.size aj ak r.Frames ∧ Own el3 w_ w.heap.size al am r.Regs ∧ Ext w w_) := by
 have H := wp.qc9.math e hp
 have b := Ext.refl w
 refine begK mixed Tryz.f129 ann (vc e.Number W e.Frames.length X k e.Regs.length l) ?_
 unfold vc
 unfold wp.qc9 at H
 refine qbx (fun aP aQ f g aw => ?_)
 have c := g
 have f := Nat.le_trans b.size f
 have b := qac b aw
 refine qbx (fun aR aS m P4 an => ?_)
 have n := c.ne m
 have m := Nat.le_trans b.size m
 have c := (c.ext an).ext (Ext.drew _)
 have d := P4.ext (Ext.drew _)
 have b := qac (qac b an) (Ext.drew _)
 refine And.intro ?_ ?_
 ·have H := H.1
  refine ⟨_, _, _, (c.a 1), ?_⟩
  refine And.intro ?_ ?_
  ·have H := H.1
   obtain ⟨ax, H⟩ := H
   obtain ⟨B, ay, H⟩ := qaf H
   refine (qaa.con ax ay (Z.ext b) a0).mono ?_
   rintro _ aT ⟨p, q, rfl, P5, a3⟩
   have ao := P5.qaI c.lt
   have az := P5.qaI d.lt
   have c := c.ext a3
   have d := d.ext a3
   have h := P5.mono b.size
   have b := qac b a3
   refine ⟨p, B.length, q, rfl, ?_⟩
   refine qcn ?_
   refine ⟨_, _, _, (c.a 2), ?_⟩
   refine qcn ?_
   obtain ⟨aA, H⟩ := H
   obtain ⟨a4, aB, H⟩ := qaf H
   refine (qag.con aA aB (a1.ext b) a2).mono ?_
   rintro _ aU ⟨C, E, rfl, P6, F⟩
   have ap := P6.qaI c.lt
   have aC := P6.qaI d.lt
   have c := c.ext F
   have d := d.ext F
   have h := h.ext F
   have s := P6.mono b.size
   have b := qac b F
   refine ⟨C, a4.length, E, rfl, ?_⟩
   refine qcn ?_
   refine stB c 1 #[(iv e.Number), (sv p B.length q), (sv k e.Regs.length l)] (fun aV g G => ?_)
   have t := d.chg G (n).symm
   have a5 := h.chg G ao
   have a6 := s.chg G ap
   have h := a5
   have s := a6
   have b := echg b G f
   have c := g
   refine qcn ?_
   refine qd9 c (o := 2) (cs' := #[(iv e.Number), (sv p B.length q), (sv C a4.length E)]) rfl rfl (Nat.le_of_ble_eq_true rfl) rfl (fun aW c I => ?_)
   have d := t.chg I (n).symm
   have a5 := h.chg I ao
   have a6 := s.chg I ap
   have b := echg b I f
   refine ⟨_, (c.a 0), _, _, _, (c.a 1), _, _, _, (c.a 2), ?_⟩
   refine qd9 d (o := 0) (cs' := #[(iv e.Number), (sv p B.length q), (sv C a4.length E)]) rfl rfl (Nat.le_of_ble_eq_true rfl) rfl (fun aX d a7 => ?_)
   have h := a5.chg a7 az
   have s := a6.chg a7 aC
   have b := echg b a7 m
   refine ⟨_, (d.a 0), _, _, _, (d.a 1), _, _, _, (d.a 2), ?_⟩
   cases Y.trans H.symm
   exact ⟨p, q, C, E, rfl, h, s, b⟩
  refine And.intro ?_ ?_
  ·have H := H.2.1
   refine ⟨_, _, _, (c.a 2), ?_⟩
   refine qcn ?_
   obtain ⟨aD, H⟩ := H
   obtain ⟨J, aE, H⟩ := qaf H
   refine (qaa.con aD aE (Z.ext b) a0).mono ?_
   rintro _ aY ⟨u, v, rfl, P7, a8⟩
   have aq := P7.qaI c.lt
   have aF := P7.qaI d.lt
   have c := c.ext a8
   have d := d.ext a8
   have i := P7.mono b.size
   have b := qac b a8
   refine ⟨u, J.length, v, rfl, ?_⟩
   refine qcn ?_
   obtain ⟨aG, H⟩ := H
   obtain ⟨a9, aH, H⟩ := qaf H
   refine (qag.con aG aH (a1.ext b) a2).mono ?_
   rintro _ aZ ⟨K, L, rfl, P8, N⟩
   have ar := P8.qaI c.lt
   have aI := P8.qaI d.lt
   have c := c.ext N
   have d := d.ext N
   have i := i.ext N
   have x := P8.mono b.size
   have b := qac b N
   refine ⟨K, a9.length, L, rfl, ?_⟩
   refine qcn ?_
   refine stB c 1 #[(iv e.Number), (sv u J.length v), (sv k e.Regs.length l)] (fun b0 g O => ?_)
   have t := d.chg O (n).symm
   have aa := i.chg O aq
   have ab := x.chg O ar
   have i := aa
   have x := ab
   have b := echg b O f
   have c := g
   refine qcn ?_
   refine qd9 c (o := 2) (cs' := #[(iv e.Number), (sv u J.length v), (sv K a9.length L)]) rfl rfl (Nat.le_of_ble_eq_true rfl) rfl (fun b1 c P => ?_)
   have d := t.chg P (n).symm
   have aa := i.chg P aq
   have ab := x.chg P ar
   have b := echg b P f
   refine ⟨_, (c.a 0), _, _, _, (c.a 1), _, _, _, (c.a 2), ?_⟩
   refine qd9 d (o := 0) (cs' := #[(iv e.Number), (sv u J.length v), (sv K a9.length L)]) rfl rfl (Nat.le_of_ble_eq_true rfl) rfl (fun b2 d ac => ?_)
   have i := aa.chg ac aF
   have x := ab.chg ac aI
   have b := echg b ac m
   refine ⟨_, (d.a 0), _, _, _, (d.a 1), _, _, _, (d.a 2), ?_⟩
   cases Y.trans H.symm
   exact ⟨u, v, K, L, rfl, i, x, b⟩
  exact trivial
 refine And.intro ?_ ?_
 ·have H := H.2.1
  refine ⟨_, _, _, (c.a 2), ?_⟩
  refine qcn ?_
  refine ⟨_, _, _, (c.a 1), ?_⟩
  refine qcn ?_
  obtain ⟨aJ, H⟩ := H
  obtain ⟨Q, aK, H⟩ := qaf H
  refine (qaa.con aJ aK (Z.ext b) a0).mono ?_
  rintro _ b3 ⟨y, z, rfl, P9, ad⟩
  have au := P9.qaI c.lt
  have aL := P9.qaI d.lt
  have c := c.ext ad
  have d := d.ext ad
  have j := P9.mono b.size
  have b := qac b ad
  refine ⟨y, Q.length, z, rfl, ?_⟩
  refine qcn ?_
  obtain ⟨aM, H⟩ := H
  obtain ⟨ae, aN, H⟩ := qaf H
  refine (qag.con aM aN (a1.ext b) a2).mono ?_
  rintro _ b4 ⟨R, S, rfl, af, T⟩
  have av := af.qaI c.lt
  have aO := af.qaI d.lt
  have c := c.ext T
  have d := d.ext T
  have j := j.ext T
  have A := af.mono b.size
  have b := qac b T
  refine ⟨R, ae.length, S, rfl, ?_⟩
  refine qcn ?_
  refine stB c 1 #[(iv e.Number), (sv y Q.length z), (sv k e.Regs.length l)] (fun b5 g U => ?_)
  have t := d.chg U (n).symm
  have ag := j.chg U au
  have ah := A.chg U av
  have j := ag
  have A := ah
  have b := echg b U f
  have c := g
  refine qcn ?_
  refine qd9 c (o := 2) (cs' := #[(iv e.Number), (sv y Q.length z), (sv R ae.length S)]) rfl rfl (Nat.le_of_ble_eq_true rfl) rfl (fun b6 c V => ?_)
  have d := t.chg V (n).symm
  have ag := j.chg V au
  have ah := A.chg V av
  have b := echg b V f
  refine ⟨_, (c.a 0), _, _, _, (c.a 1), _, _, _, (c.a 2), ?_⟩
  refine qd9 d (o := 0) (cs' := #[(iv e.Number), (sv y Q.length z), (sv R ae.length S)]) rfl rfl (Nat.le_of_ble_eq_true rfl) rfl (fun b7 d ai => ?_)
  have j := ag.chg ai aL
  have A := ah.chg ai aO
  have b := echg b ai m
  refine ⟨_, (d.a 0), _, _, _, (d.a 1), _, _, _, (d.a 2), ?_⟩
  cases Y.trans H.symm
  exact ⟨y, z, R, S, rfl, j, A, b⟩
 exact trivial
def qbS.vc (ae : OA) (af ag : Nat) (ah : OA) (ai aj : Nat) (ak : OA) (al am : Nat) (an ao : Int) (w : World) (K : VK) : Prop :=
  newK w (.cells (vB ae af ag ah ai aj ak al am an ao) 33) fun h ap => newK ap (.cells zC 33) fun u a => qgl (σ := Addr × Unit) (fun j => (∃ b : Nat → Prop, ldSM b a ((bx h).add 0) 0 fun v x y => ldSM b a ((bx h).add 2) 0 fun k l m => ldIM b a ((bx h).add 3) 0 fun n => ldIM b a ((bx h).add 4) 0 fun o => ((Cl 127 #[(sv v x y)] a.drew fun aq p => (∃ (q : OA) (r s : Nat), aq = (sv q r s) ∧ qaS b a p ∧ ((Cl 128 #[(sv k l m)] p fun ar z => (∃ (A : OA) (B C : Nat), ar = (sv A B C) ∧ qaS b a z ∧ newK z (.cells zC 33) fun D E => qaS b a E ∧ qae (bx D) [(sv q r s), (sv none 0 0), (sv A B C), (iv n), (iv o)] 0 E fun au => j ((bx D), ()) au)) ∧ (newK p (.cells zC 33) fun F G => qaS b a G ∧ Cl 128 #[(sv k l m)] G fun av H => (∃ (I : OA) (J L : Nat), av = (sv I J L) ∧ qaS b a H ∧ qae (bx F) [(sv q r s), (sv none 0 0), (sv I J L), (iv n), (iv o)] 0 H fun aw => j ((bx F), ()) aw)) ∧ True))) ∧ (newK a.drew (.cells zC 33) fun M N => qaS b a N ∧ Cl 127 #[(sv v x y)] N fun ax O => (∃ (P : OA) (Q R : Nat), ax = (sv P Q R) ∧ qaS b a O ∧ Cl 128 #[(sv k l m)] O fun ay w64 => (∃ (S : OA) (T U : Nat), ay = (sv S T U) ∧ qaS b a w64 ∧ qae (bx M) [(sv P Q R), (sv none 0 0), (sv S T U), (iv n), (iv o)] 0 w64 fun az => j ((bx M), ()) az))) ∧ True))) fun e V => ldS V (((bx h).add 1).add 0) fun aA W bk => qdS (σ := Int × Unit) (fun g c aB => qa1 (decide (g.1 < ((W : Nat) : Int))) ((idx g.1 W aA fun t => ldI c ((t.add ((g.1.toNat) * 3)).add 0) fun aC => ldS c ((t.add ((g.1.toNat) * 3)).add 1) fun aD aE aF => ldS c ((t.add ((g.1.toNat) * 3)).add 2) fun aG aH aI => newK c (.cells #[(iv 0), (sv none 0 0), (sv none 0 0)] 52) fun i aJ => qae (bx i) [(iv aC), (sv aD aE aF), (sv aG aH aI)] 0 aJ fun d => (∃ f : Nat → Prop, ldSM f d (e.1.add 1) 0 fun aK aL aM => ldIM f d (bx i) 0 fun aN => ldSM f d (bx i) 1 fun aO aP aQ => ldSM f d (bx i) 2 fun aR aS aT => Cl 129 #[(.agg #[(iv aN), (sv aO aP aQ), (sv aR aS aT)])] d.drew fun aU X => (∃ (Y : Int), True ∧ ∃ (Z : OA) (a0 a1 : Nat), True ∧ ∃ (a2 : OA) (a3 a4 : Nat), True ∧ aU = (.agg #[(iv Y), (sv Z a0 a1), (sv a2 a3 a4)]) ∧ qaS f d X ∧ Run Tryz.prog (Instr.buildSlice 31 1 #[(0, (.agg #[(iv Y), (sv Z a0 a1), (sv a2 a3 a4)]))]) X fun aV a5 => ∃ (a6 : OA) (a7 a8 : Nat), aV = .slice a6 a7 a8 ∧ qaS f d a5 ∧ Run Tryz.prog (Builtin.append_ #[31, 31] 31 #[(sv aK aL aM), (sv a6 a7 a8)]) a5 fun aW a9 => ∃ (aa : OA) (ab ac : Nat), aW = .slice aa ab ac ∧ qaS f d a9 ∧ qae (e.1.add 1) [(sv aa ab ac)] 0 a9 fun aX => aB ((wrap .i64 (g.1 + 1)), ()) aX)))) (ldS c (e.1.add 0) fun aY aZ b0 => ldS c (e.1.add 1) fun b1 b2 b3 => ldS c (e.1.add 2) fun b4 b5 b6 => ldI c (e.1.add 3) fun b7 => ldI c (e.1.add 4) fun b8 => qae (bx u) [(sv aY aZ b0), (sv b1 b2 b3), (sv b4 b5 b6), (iv b7), (iv b8)] 0 c fun ad => ldB ad (bx u) fun b9 ba bb bc bd be bf bg bh bi bj => K (.agg (vB b9 ba bb bc bd be bf bg bh bi bj)) ad)) (0, ()) V

def qbS.ann : Ann := (.seq .l (.cut [(3, .ptr)] .l (.seq (.seq .l (.one (.loop [(20, .int .i64)] (.seq .l (.seq (.two .l .l) (.seq (.one (.seq .l .l)) .l)))))) (.seq .l .l))))

theorem qbS.con {k r : D.Block} {a9 aa ab : OA} {ac ad ae : Nat} {w : World} (Z : M.qeB k) (hr : r = M.qbS k) (aI : Row el84 w a9 k.Code) (aJ : k.Code.length ≤ ac) (aK : RowW 52 el91 el3 w aa k.Warps) (bO : k.Warps.length ≤ ad) (aL : Row el3 w ab k.Memory) (aM : k.Memory.length ≤ ae) :
    Cl 69 #[(.agg (bC a9 ac aa ad ab ae k))] w (fun v_ m => ∃ (aq : OA) (ar : Nat) (am : OA) (au : Nat) (av : Nat → Prop) (an : OA) (aw : Nat), v_ = (.agg (bC aq ar am au an aw r)) ∧ Own el84 m w.heap.size aq ar r.Code ∧ OwnW 52 el91 el3 m w.heap.size av am au r.Warps ∧ Own el3 m w.heap.size an aw r.Memory ∧ Dis (InW am av) (InB an) ∧ Ext w m) := by
 have H := wp.qbS.math k Z
 refine begK mixed Tryz.f69 ann (vc a9 k.Code.length ac aa k.Warps.length ad ab k.Memory.length ae k.Waiting k.Phase) ?_
 unfold vc
 unfold wp.qbS at H
 refine qbx (fun ax bP L4 n aO => ?_)
 have b := qac (Ext.refl w) aO
 refine qbx (fun ao aP L5 P5 ay => ?_)
 have n := n.ext ay
 have d := P5
 have L5 := Nat.le_trans b.size L5
 have b := qac b ay
 obtain ⟨aQ, aR, H⟩ := qdJ H
 refine ⟨fun z_ m => ∃ (v : List D.Ins) (a0 : List D.Warp) (x : List Int) (af ag : Int) (F : Nat) (y : OA) (z : Nat) (a1 : OA) (ah : Nat) (ai : Nat → Prop) (s : OA) (A : Nat), z_ = ((bx F), ()) ∧ aQ (v, a0, x, af, ag, ()) ∧ Ext w m ∧ Blk m F 33 #[(sv y v.length z), (sv a1 a0.length ah), (sv s x.length A), (iv af), (iv ag)] ∧ w.heap.size ≤ F ∧ Own el84 m w.heap.size y z v ∧ OwnW 52 el91 el3 m w.heap.size ai a1 ah a0 ∧ Own el3 m w.heap.size s A x ∧ Blk m ax 33 (bC a9 ac aa ad ab ae k) ∧ Blk m ao 33 zC ∧ ax ≠ F ∧ ao ≠ F ∧ Dis (InW a1 ai) (InB s), ?_, ?_⟩
 ·refine ⟨(fun _ => False), _, _, _, noM (n.a 0), _, _, _, noM (n.a 2), _, noM (n.a 3), _, noM (n.a 4), ?_⟩
  have hS := (Chg.refl (fun _ => False) aP).then (Ext.drew _)
  have n := n.ext (Ext.drew _)
  have d := d.ext (Ext.drew _)
  have b := qac b (Ext.drew _)
  repeat' first
  |with_reducible exact trivial
  |(with_reducible show qaS _ _ _ ∧ _; refine ⟨qaj hS, ?_⟩)
  |(with_reducible show _ ∧ _; refine And.imp ?_ ?_ H <;> intro H)
  |(with_reducible show Cl 127 _ _ _
    obtain ⟨Z, H⟩ := H
    obtain ⟨r1, hr, H⟩ := qaf H
    refine (qa2.con Z hr (aI.ext b) aJ).mono ?_
    rintro _ w1 ⟨A1, c1, rfl, P1, e⟩
    have P := P1.mono b.size
    have n := n.ext e
    have d := d.ext e
    try have Q := Q.ext e
    try have B := B.ext e
    have hS := hS.then e
    have b := qac b e
    refine ⟨A1, _, c1, rfl, ?_⟩)
  |(with_reducible show Cl 128 _ _ _
    obtain ⟨Z, H⟩ := H
    obtain ⟨r2, hr, H⟩ := qaf H
    refine (qag.con Z hr (aL.ext b) aM).mono ?_
    rintro _ w1 ⟨A2, c2, rfl, P2, e⟩
    have Q := P2.mono b.size
    have n := n.ext e
    have d := d.ext e
    try have P := P.ext e
    try have B := B.ext e
    have hS := hS.then e
    have b := qac b e
    refine ⟨A2, _, c2, rfl, ?_⟩)
  |(with_reducible show newK _ _ _
    refine qbx (fun g3 w1 R P3 e => ?_)
    have N4 := n.ne R
    have N5 := d.ne R
    have R := Nat.le_trans b.size R
    have B := P3
    have n := n.ext e
    have d := d.ext e
    try have P := P.ext e
    try have Q := Q.ext e
    have hS := hS.then e
    have b := qac b e)
  |(with_reducible show qae _ _ _ _ _
    have az := B
    refine qd9 B (o := 0) (cs' := #[(sv A1 r1.length c1), (sv none 0 0), (sv A2 r2.length c2), (iv k.Waiting), (iv k.Phase)]) rfl rfl (Nat.le_of_ble_eq_true rfl) rfl (fun w1 B e => ?_)
    exact ⟨r1, [], r2, _, _, g3, A1, c1, none, 0, (fun _ => False), A2, c2, rfl, H, echg b e R, B, R, P.chg e (P.qa6 az (by decide)), OwnW.nil, Q.chg e (Q.qa6 az (by decide)), n.chg e N4, d.chg e N5, N4, N5, qfl⟩)
 rintro _ bQ ⟨v, a0, x, af, ag, F, y, z, a1, ah, ai, s, A, rfl, H, b, i, aS, l, aT, j, n, d, bR, aU, aV⟩
 have H := aR _ H
 try dsimp only at H ⊢
 refine ⟨_, _, _, (n.a 1), ?_⟩
 obtain ⟨aW, ⟨aX, aY⟩, aA⟩ := H
 refine ⟨fun m_ z_ m => ∃ (S : Int) (T : List D.Warp) (U V : Int) (t : OA) (a2 : Nat) (W : Nat → Prop), z_ = (S, ()) ∧ aW m_ (S, T, U, V, ()) ∧ Ext w m ∧ Blk m F 33 #[(sv y v.length z), (sv t T.length a2), (sv s x.length A), (iv U), (iv V)] ∧ OwnW 52 el91 el3 m w.heap.size W t a2 T ∧ Blk m ao 33 zC ∧ Own el84 m w.heap.size y z v ∧ Own el3 m w.heap.size s A x ∧ Dis (InW t W) (InB s), ⟨aX, 0, a0, af, ag, a1, ah, ai, rfl, aY, b, i, aT, d, l, j, aV⟩, ?_⟩
 rintro aZ _ bS ⟨S, T, U, V, t, a2, W, rfl, aB, b, i, f, d, l, j, a3⟩
 have H := aA aZ _ aB
 clear aA aB
 try dsimp only at H ⊢
 apply brc H<;>intro h H
 ·obtain ⟨⟨aC, aD⟩, H⟩ := H
  obtain ⟨b0, b1, b2, b3, b4, b5, b6, b7, b8, b9, ba, bb, bc⟩ := RowW.at aK aC aD
  refine ⟨aC, aD, b0, b1, _, (Ext.cell b b6), _, _, _, (Ext.cell b b7), _, _, _, (Ext.cell b b8), ?_⟩
  refine qbx (fun bd bT C be X => ?_)
  have bf := d.ne C
  have bg := i.ne C
  have bh := l.qbI C
  have bi := j.qbI C
  have aj := f.qeP C
  have d := d.ext X
  have l := l.ext X
  have j := j.ext X
  have f := f.ext X
  have p := be
  have C := Nat.le_trans b.size C
  have b := qac b X
  refine qd9 p (o := 0) (cs' := #[(iv ((rd k.Warps S).Number)), (sv b2 ((rd k.Warps S).Frames.length) b3), (sv b4 ((rd k.Warps S).Regs.length) b5)]) rfl rfl (Nat.le_of_ble_eq_true rfl) rfl (fun bj p Y => ?_)
  have bk := d.chg Y bf
  have i := (i.ext X).chg Y bg
  have bl := l.chg Y bh
  have bm := j.chg Y bi
  have bn := f.chg Y aj
  have f := bn
  refine ⟨(InB t), _, _, _, ⟨(qi1 (fun c => (f.qes i (by decide) (by decide) (by decide)) (Or.inl c)) (by first | rfl | (simp only [qeF]))), (i.a 1)⟩, _, ⟨(qi1 (fun c => aj (Or.inl c)) (by first | rfl | (simp only [qeF]))), (p.a 0)⟩, _, _, _, ⟨(qi1 (fun c => aj (Or.inl c)) (by first | rfl | (simp only [qeF]))), (p.a 1)⟩, _, _, _, ⟨(qi1 (fun c => aj (Or.inl c)) (by first | rfl | (simp only [qeF]))), (p.a 2)⟩, ?_⟩
  have d := bk.ext (Ext.drew _)
  have i := i.ext (Ext.drew _)
  have l := bl.ext (Ext.drew _)
  have j := bm.ext (Ext.drew _)
  have f := f.ext (Ext.drew _)
  have p := p.ext (Ext.drew _)
  have b := qac (echg b Y C) (Ext.drew _)
  have q := (Chg.refl (InB t) bj).then (Ext.drew _)
  obtain ⟨bo, H⟩ := H
  obtain ⟨a4, bp, H⟩ := qaf H
  refine (cllA (qc9.con bo bp (b9.ext b) ba (bb.ext b) bc)).mono ?_
  rintro _ bU ⟨G, aE, I, aF, rfl, a5, a6, E⟩
  have bq := aN j a5
  have br := f.qgr a5 (Nat.le_refl _)
  have bs := a5.qaI p.lt
  have bt := aN j a6
  have bu := f.qgr a6 (Nat.le_refl _)
  have bv := a6.qaI p.lt
  have j := j.ext E
  have f := f.ext E
  have p := p.ext E
  have bw := (a5.mono q.size).low
  have bz := (a6.mono q.size).low
  have bA := a5.mono b.size
  have bB := a6.mono b.size
  have b := qac b E
  have q := q.then E
  refine ⟨a4.Number, trivial, G, a4.Frames.length, aE, trivial, I, a4.Regs.length, aF, trivial, rfl, qaj q, ?_⟩
  refine qaY (elH 52) ([⟨a4, G, aE, I, aF⟩] : List HW) (fun _ => by kernel_rfl) rfl (fun ak bV a7 u => ?_)
  have bD : OwnW 52 el91 el3 _ _ _ _ _ _ := OwnW.one (a7.mono b.size) (bA.ext u) (bB.ext u)
  have bE : Dis (InW ak (fun g => InB G g ∨ InB I g)) (InB s) := fun g c J => c.elim (fun c => (Own.qdL j a7 (Nat.le_refl _)).inb g J c) (fun c => c.elim (fun c => ((bq).symm).inb g c J) (fun c => ((bt).symm).inb g c J))
  have bF : Dis (InW ak (fun g => InB G g ∨ InB I g)) (InW t W) := fun g c J => c.elim (fun c => f.qgr a7 (Nat.le_refl _) g J c) (fun c => c.elim (fun c => br g J c) (fun c => bu g J c))
  have bW : ¬ InW ak (fun g => InB G g ∨ InB I g) bd := fun c => c.elim (fun c => a7.qaI p.lt |>.inb c) (fun c => c.elim (bs).inb (bv).inb)
  have d := (d.ext E).ext u
  have i := (i.ext E).ext u
  have l := (l.ext E).ext u
  have j := j.ext u
  have f := f.ext u
  have bX : ∀ g, InW ak (fun g => InB G g ∨ InB I g) g → _ := fun g c => c.elim ((a7.mono q.size).low g) (fun c => c.elim (fun c => bw g c) (fun c => bz g c))
  have bG := bD
  have b := qac b u
  have q := q.then u
  refine ⟨qaj q, ?_⟩
  obtain ⟨bH, H⟩ := H
  refine qmd qmY qmY.under f bG (bF).symm (by decide) (by decide) b.size rfl (by first | rfl | omega | (simp; done) | (simp; omega)) bH (fun aG aH bY bI K => ?_)
  have d := d.app K (fun L N O => (f.qes d (by decide) (by decide) (by decide)) (Or.inl ⟨L, N, O⟩))
  have i := i.app K (fun L N O => (f.qes i (by decide) (by decide) (by decide)) (Or.inl ⟨L, N, O⟩))
  have l := l.app K (fun L b_ N O ap => (f.qhV l (by decide) (by decide) (by decide)) _ (Or.inl ⟨b_, O, rfl⟩) ⟨L, N, ap⟩)
  have bJ := qmm a3 bE K j
  have j := j.app K (fun L b_ N O ap => a3 _ (Or.inl ⟨b_, O, rfl⟩) ⟨L, N, ap⟩)
  have a3 := bJ
  have q := q.app K (fun g c => (Or.inr c))
  have b := qnM b K f
  have f := bI
  refine ⟨qaj q, ?_⟩
  refine stB i 1 #[(sv y v.length z), (sv aG (((T ++ ([a4] : List D.Warp))).length) aH), (sv s x.length A), (iv U), (iv V)] (fun bZ bK a8 => ?_)
  have d := d.chg a8 aU
  have l := l.chg a8 (l.qa6 i (by decide))
  have j := j.chg a8 (j.qa6 i (by decide))
  have f := f.chg a8 (f.qes i (by decide) (by decide) (by decide))
  have b := echg b a8 aS
  have i := bK
  obtain ⟨bL, bM, bN⟩ := H
  exact ⟨bL, bM, _, _, U, V, aG, aH, (fun g => W g ∨ (fun g => InB G g ∨ InB I g) g), rfl, bN, b, i, f, d, l, j, a3⟩
 refine ⟨_, _, _, (i.a 0), _, _, _, (i.a 1), _, _, _, (i.a 2), _, (i.a 3), _, (i.a 4), ?_⟩
 refine stB d 0 #[(sv y v.length z), (sv t T.length a2), (sv s x.length A), (iv U), (iv V)] (fun c0 P5 al => ?_)
 have l := l.chg al (l.qa6 d (by decide))
 have j := j.chg al (j.qa6 d (by decide))
 have f := f.chg al (f.qes d (by decide) (by decide) (by decide))
 have b := echg b al L5
 have d := P5
 refine ⟨_, _, _, (d.a 0), _, _, _, (d.a 1), _, _, _, (d.a 2), _, (d.a 3), _, (d.a 4), ?_⟩
 cases hr.trans H.symm
 exact ⟨y, z, t, a2, W, s, A, rfl, l, f, j, a3, b⟩
def qbc.vc (e : Int) (f : OA) (g h : Nat) (i : OA) (j k : Nat) (a : Int) (w : World) (K : VK) : Prop :=
  newK w (.cells #[(iv e), (sv f g h), (sv i j k)] 52) fun l c => ldS c (((bx l).add 2).add 0) fun d m b => ((0 : Int) ≤ (wrap .i64 ((wrap .i64 (a + 1)) * 4)) ∧ (wrap .i64 ((wrap .i64 (a + 1)) * 4)) ≤ ((b : Nat) : Int) ∧ ((0 : Int) ≤ (wrap .i64 (a * 4)) ∧ (wrap .i64 (a * 4)) ≤ ((((wrap .i64 ((wrap .i64 (a + 1)) * 4)).toNat) : Nat) : Int) ∧ K (sv (if b = ((wrap .i64 (a * 4)).toNat) then d else d.map (·.add (((wrap .i64 (a * 4)).toNat) * szOf Tryz.prog 3))) (((wrap .i64 ((wrap .i64 (a + 1)) * 4)).toNat) - ((wrap .i64 (a * 4)).toNat)) (b - ((wrap .i64 (a * 4)).toNat))) c))

def qbc.ann : Ann := (.seq .l (.seq .l .l))

theorem qbc.qo2 (x0_0 : Int) (A0_1 : OA) (n0_1 c0_1 : Nat) (A0_2 : OA) (n0_2 c0_2 : Nat) (x1 : Int) (w : World) (K : Value → World → Prop) : vcF Tryz.prog Tryz.f107 qbc.ann [(.agg #[(iv x0_0), (sv A0_1 n0_1 c0_1), (sv A0_2 n0_2 c0_2)]), (iv x1)] K w = qbc.vc x0_0 A0_1 n0_1 c0_1 A0_2 n0_2 c0_2 x1 w K := by kernel_rfl

theorem qbc.start {x0_0 : Int} {A0_1 : OA} {n0_1 c0_1 : Nat} {A0_2 : OA} {n0_2 c0_2 : Nat} {x1 : Int} {w : World} {K : Value → World → Prop} (h : qbc.vc x0_0 A0_1 n0_1 c0_1 A0_2 n0_2 c0_2 x1 w K) : Cl 107 #[(.agg #[(iv x0_0), (sv A0_1 n0_1 c0_1), (sv A0_2 n0_2 c0_2)]), (iv x1)] w K :=
  qdG mixed (fn := Tryz.f107) (by kernel_rfl) (by kernel_rfl) (an := qbc.ann) (args := [(.agg #[(iv x0_0), (sv A0_1 n0_1 c0_1), (sv A0_2 n0_2 c0_2)]), (iv x1)]) (by rw [qbc.qo2]; exact h)
end Go.V
set_option linter.unusedVariables false
set_option linter.unusedSimpArgs false
set_option maxRecDepth 100000
namespace Go.V
open IntKind (wrap)
open Go.Proofs
/-- a lane's registers: a cut of the warp's -/
theorem qbc.con {b : D.Warp} {f : Option Addr} {h : Nat} {d : Option Addr} {c : Nat} {a : Int} {w : World} (i : M.qdc b a) (o : Row el91 w f b.Frames) (p : b.Frames.length ≤ h) (q : Row el3 w d b.Regs) (r : b.Regs.length ≤ c) :
    Cll Tryz.prog 107 #[(.agg #[(.int .i64 b.Number), (.slice f b.Frames.length h), (.slice d b.Regs.length c)]), (.int .i64 a)] w (fun j k => j = (.slice (cutA c ((IntKind.wrap .i64 (a * 4)).toNat) d 1) (List.drop ((IntKind.wrap .i64 (a * 4)).toNat) (List.take ((IntKind.wrap .i64 ((IntKind.wrap .i64 (a + 1)) * 4)).toNat) b.Regs)).length (c - (IntKind.wrap .i64 (a * 4)).toNat)) ∧ Ext w k) := by
  obtain ⟨s, t, u⟩ := i
  refine qbc.start ?_
  unfold qbc.vc
  refine qbx fun g v L P e => ?_
  have l : IntKind.wrap .i64 (a * 4) = a * 4 := w64 (by omega) (by omega)
  have m : IntKind.wrap .i64 ((IntKind.wrap .i64 (a + 1)) * 4) = a * 4 + 4 := by rw [w64 (x := a + 1) (by omega) (by omega), w64 (by omega) (by omega)]; omega
  refine ⟨_, _, _, P.at 2 rfl rfl, ?_⟩
  rw [l, m]
  refine ⟨by omega, by omega, by omega, by omega, ?_, e⟩
  have n : (List.drop (a * 4).toNat (List.take (a * 4 + 4).toNat b.Regs)).length = (a * 4 + 4).toNat - (a * 4).toNat := by simp; omega
  rw [n]
  have hz : szOf Tryz.prog 3 = 1 := by kernel_rfl
  rw [hz]
  rfl
theorem qbc.cut {x : D.Warp} {l : Int} (h : M.qdc x l) : (IntKind.wrap .i64 (l * 4)).toNat ≤ (List.take ((IntKind.wrap .i64 ((IntKind.wrap .i64 (l + 1)) * 4)).toNat) x.Regs).length := by
  obtain ⟨h1, h2, h3⟩ := h
  rw [w64 (x := l * 4) (by omega) (by omega), w64 (x := l + 1) (by omega) (by omega), w64 (by omega) (by omega), List.length_take]
  omega
def qb0.vc (d : Int) (e : OA) (f g : Nat) (h : OA) (i j : Nat) (w : World) (K : VK) : Prop :=
  newK w (.cells #[(iv d), (sv e f g), (sv h i j)] 52) fun b a => ldS a (((bx b).add 1).add 0) fun p k q => qa1 (((k : Nat) : Int) == 0) (K (iv 0) a) (ldS a (((bx b).add 1).add 0) fun l m r => ldS a (((bx b).add 1).add 0) fun s c t => (idx (wrap .i64 (((c : Nat) : Int) - 1)) m l fun n => ldI a (((n.add (((wrap .i64 (((c : Nat) : Int) - 1)).toNat) * 3)).add 2).add 0) fun o => K (iv o) a))

def qb0.ann : Ann := (.seq .l (.seq (.seq .l (.two (.seq .l .l) .l)) (.seq .l .l)))

theorem qb0.con {b : D.Warp} {c d : OA} {e f : Nat} {r : Int} {w : World} (m : M.qcs b) (j : r = M.qb0 b) (n : Row el91 w c b.Frames) (v : b.Frames.length ≤ e) (x : Row el3 w d b.Regs) (y : b.Regs.length ≤ f) :
    Cl 106 #[(.agg (wC c e d f b))] w (fun o p => o = (iv r) ∧ Ext w p) := by
 have H := wp.qb0.math b m
 refine begK mixed Tryz.f106 ann (vc b.Number c b.Frames.length e d b.Regs.length f) ?_
 unfold vc
 unfold wp.qb0 at H
 refine qbx (fun z A B g q => ?_)
 have i := qac (Ext.refl w) q
 refine ⟨_, _, _, (g.a 1), ?_⟩
 apply brc H<;>intro h H
 ·cases j.trans H.symm
  exact ⟨rfl, i⟩
 refine ⟨_, _, _, (g.a 1), _, _, _, (g.a 1), ?_⟩
 obtain ⟨⟨k, l⟩, H⟩ := H
 obtain ⟨s, t, u⟩ := Row.at (n.ext i) k l
 refine ⟨k, l, s, t, _, (u 2 _ rfl), ?_⟩
 cases j.trans H.symm
 exact ⟨rfl, i⟩
def qaz.vc (n : Int) (o : OA) (p q : Nat) (r : OA) (s t : Nat) (h : Int) (w : World) (K : VK) : Prop :=
  newK w (.cells #[(iv n), (sv o p q), (sv r s t)] 52) fun b d => ldI d ((bx b).add 0) fun u => ldS d ((bx b).add 1) fun v x y => ldS d ((bx b).add 2) fun z A B => Cl 106 #[(.agg #[(iv u), (sv v x y), (sv z A B)])] d fun C D => (∃ (i : Int), C = (iv i) ∧ Cl 105 #[(iv i)] D fun E F => (∃ (j : OA) (e G : Nat), E = (sv j e G) ∧ qdS (σ := Int × Int × Unit) (fun a c k => qa1 (decide (a.2.1 < ((e : Nat) : Int))) ((idx a.2.1 e j fun H => ldI c ((H.add ((a.2.1.toNat) * 1)).add 0) fun f => ldI c ((bx b).add 0) fun I => ldS c ((bx b).add 1) fun J L M => ldS c ((bx b).add 2) fun N O P => Cl 107 #[(.agg #[(iv I), (sv J L M), (sv N O P)]), (iv f)] c fun Q g => (∃ (l : OA) (m R : Nat), Q = (sv l m R) ∧ (idx h m l fun S => ldI g ((S.add ((h.toNat) * 1)).add 0) fun T => qa1 (T == 0) (((0 : Int) ≤ f ∧ k ((qgD .i64 a.1 (wrap .i64 (1 * 2 ^ (min (f.toNat) (IntKind.bits .i64))))), (wrap .i64 (a.2.1 + 1)), ()) g)) (k (a.1, (wrap .i64 (a.2.1 + 1)), ()) g))))) (K (iv a.1) c)) (0, 0, ()) F))

def qaz.ann : Ann := (.seq .l (.seq .l (.seq (.seq .l (.one (.loop [(5, .int .i64), (12, .int .i64)] (.seq .l (.seq (.two .l .l) (.seq (.one (.seq .l (.seq .l (.two .l .l)))) .l)))))) (.seq .l .l))))

theorem qaz.con {c : D.Warp} {o j : OA} {p g : Nat} {k r : Int} {w : World} (K : M.qcl c k) (L : r = M.qaz c k) (v : Row el91 w o c.Frames) (x : c.Frames.length ≤ p) (t : Row el3 w j c.Regs) (q : c.Regs.length ≤ g) :
    Cl 166 #[(.agg (wC o p j g c)), (iv k)] w (fun N n => N = (iv r) ∧ Ext w n) := by
 have H := wp.qaz.math c k K
 refine begK mixed Tryz.f166 ann (vc c.Number o c.Frames.length p j c.Regs.length g k) ?_
 unfold vc
 unfold wp.qaz at H
 refine qbx (fun O ag L3 d P => ?_)
 have b := qac (Ext.refl w) P
 refine ⟨_, (d.a 0), _, _, _, (d.a 1), _, _, _, (d.a 2), ?_⟩
 obtain ⟨Q, H⟩ := H
 obtain ⟨R, S, H⟩ := qaf H
 refine (qb0.con Q S (v.ext b) x (t.ext b) q).mono ?_
 rintro _ ah ⟨rfl, y⟩
 have b := qac b y
 refine ⟨R, rfl, ?_⟩
 obtain ⟨f, T, H⟩ := qaf H
 refine (qbM.con T ).mono ?_
 rintro _ ai ⟨z, A, rfl, U, B⟩
 have d := (d.ext y).ext B
 have i := U.mono b.size
 have b := qac b B
 refine ⟨z, f.length, A, rfl, ?_⟩
 obtain ⟨V, ⟨W, X⟩, C⟩ := H
 refine ⟨fun Y Z n => ∃ (s e : Int), Z = (s, e, ()) ∧ V Y (s, e, ()) ∧ Ext w n ∧ Blk n O 52 (wC o p j g c) ∧ Own el3 n w.heap.size z A f, ⟨W, 0, 0, rfl, X, b, d, i⟩, ?_⟩
 rintro a0 _ aj ⟨s, e, rfl, E, b, d, i⟩
 have H := C a0 _ E
 clear C E
 try dsimp only at H ⊢
 apply brc H<;>intro h H
 ·obtain ⟨⟨F, G⟩, H⟩ := H
  obtain ⟨a1, a2, a3⟩ := Row.at i.row F G
  refine ⟨F, G, a1, a2, _, (a3 0 _ rfl), _, (d.a 0), _, _, _, (d.a 1), _, _, _, (d.a 2), ?_⟩
  obtain ⟨a4, H⟩ := H
  refine (qbc.con a4 (v.ext b) x (t.ext b) q).mono ?_
  rintro _ ak ⟨rfl, u⟩
  have d := d.ext u
  have i := i.ext u
  have b := qac b u
  have a5 := (t.take ((wrap .i64 ((wrap .i64 ((rd f e) + 1)) * 4)).toNat)).drop (l := ((wrap .i64 ((rd f e) * 4)).toNat)) (m := g) (by have := q; simp; omega)
  have al : (List.drop ((wrap .i64 ((rd f e) * 4)).toNat) (List.take ((wrap .i64 ((wrap .i64 ((rd f e) + 1)) * 4)).toNat) c.Regs)).length ≤ (g - ((wrap .i64 ((rd f e) * 4)).toNat)) := by have := q; simp; omega
  refine ⟨(cutA g ((wrap .i64 ((rd f e) * 4)).toNat) j 1), (List.drop ((wrap .i64 ((rd f e) * 4)).toNat) (List.take ((wrap .i64 ((wrap .i64 ((rd f e) + 1)) * 4)).toNat) c.Regs)).length, (g - ((wrap .i64 ((rd f e) * 4)).toNat)), rfl, ?_⟩
  obtain ⟨⟨I, J⟩, H⟩ := H
  obtain ⟨a6, a7, a8⟩ := Row.at (a5.ext b) I J
  refine ⟨I, J, a6, a7, _, (a8 0 _ rfl), ?_⟩
  apply brc H<;>intro h H
  ·obtain ⟨a9, H⟩ := H
   refine ⟨a9, ?_⟩
   obtain ⟨aa, ab, ac⟩ := H
   exact ⟨aa, ab, _, _, rfl, ac, b, d, i⟩
  obtain ⟨ad, ae, af⟩ := H
  exact ⟨ad, ae, s, _, rfl, af, b, d, i⟩
 cases L.trans H.symm
 exact ⟨rfl, b⟩
def qaK.vc (k : Int) (l : OA) (m n : Nat) (o : OA) (p q : Nat) (f : OA) (g T : Nat) (w : World) (K : VK) : Prop :=
  newK w (.cells #[(iv k), (sv l m n), (sv o p q)] 52) fun b a => ldS a (((bx b).add 1).add 0) fun r s U => ldS a (((bx b).add 1).add 0) fun V i W => (idx (wrap .i64 (((i : Nat) : Int) - 1)) s r fun t => ldI a (((t.add (((wrap .i64 (((i : Nat) : Int) - 1)).toNat) * 3)).add 0).add 0) fun c => (idx c g f fun u => ldI a (((u.add ((c.toNat) * 4)).add 0).add 0) fun v => qa1 (v != 10) (K (.bool false) a) ((idx c g f fun x => ldI a (((x.add ((c.toNat) * 4)).add 2).add 0) fun y => qa1 (y == (wrap .i64 (c + 1))) (K (.bool false) a) ((∃ e : Nat → Prop, ldIM e a (bx b) 0 fun z => ldSM e a (bx b) 1 fun A B C => ldSM e a (bx b) 2 fun D E F => (idx c g f fun G => ldIM e a ((G.add ((c.toNat) * 4)).add 1) 0 fun H => Cl 166 #[(.agg #[(iv z), (sv A B C), (sv D E F)]), (iv H)] a.drew fun I d => (∃ (h : Int), I = (iv h) ∧ qaS e a d ∧ qa1 (h != 0) (ldI d ((bx b).add 0) fun J => ldS d ((bx b).add 1) fun L M N => ldS d ((bx b).add 2) fun O P Q => Cl 106 #[(.agg #[(iv J), (sv L M N), (sv O P Q)])] d fun R S => (∃ (j : Int), R = (iv j) ∧ K (.bool (h != j)) S)) (K (.bool false) d)))))))))

def qaK.ann : Ann := (.seq .l (.seq .l (.seq (.seq .l (.two (.seq .l .l) .l)) (.seq .l (.seq .l .l)))))

theorem qaK.con {d : D.Warp} {g i j : OA} {k l m : Nat} {e : List D.Ins} {r : Bool} {w : World} (F : M.qdn d e) (f : r = M.qaK d e) (n : Row el91 w g d.Frames) (s : d.Frames.length ≤ k) (t : Row el3 w i d.Regs) (u : d.Regs.length ≤ l) (o : Row el84 w j e) (a6 : e.length ≤ m) :
    Cl 122 #[(.agg (wC g k i l d)), (sv j e.length m)] w (fun G I => G = (.bool r) ∧ Ext w I) := by
 have H := wp.qaK.math d e F
 refine begK mixed Tryz.f122 ann (vc d.Number g d.Frames.length k i d.Regs.length l j e.length m) ?_
 unfold vc
 unfold wp.qaK at H
 refine qbx (fun a7 J L4 c K => ?_)
 have b := qac (Ext.refl w) K
 refine ⟨_, _, _, (c.a 1), _, _, _, (c.a 1), ?_⟩
 obtain ⟨⟨v, x⟩, H⟩ := H
 obtain ⟨L, N, O⟩ := Row.at (n.ext b) v x
 refine ⟨v, x, L, N, _, (O 0 _ rfl), ?_⟩
 obtain ⟨⟨y, z⟩, H⟩ := H
 obtain ⟨P, Q, R⟩ := Row.at (o.ext b) y z
 refine ⟨y, z, P, Q, _, (R 0 _ rfl), ?_⟩
 apply brc H<;>intro h H
 ·cases f.trans H.symm
  exact ⟨rfl, b⟩
 obtain ⟨⟨A, B⟩, H⟩ := H
 obtain ⟨S, T, U⟩ := Row.at (o.ext b) A B
 refine ⟨A, B, S, T, _, (U 2 _ rfl), ?_⟩
 apply brc H<;>intro h H
 ·cases f.trans H.symm
  exact ⟨rfl, b⟩
 refine ⟨(fun _ => False), _, noM (c.a 0), _, _, _, noM (c.a 1), _, _, _, noM (c.a 2), ?_⟩
 obtain ⟨⟨C, E⟩, H⟩ := H
 obtain ⟨V, W, X⟩ := Row.at (o.ext b) C E
 refine ⟨C, E, V, W, _, ⟨(fun Y => Y), (X 1 _ rfl)⟩, ?_⟩
 have c := c.ext (Ext.drew _)
 have b := qac b (Ext.drew _)
 have p := (Chg.refl (fun _ => False) J).then (Ext.drew _)
 obtain ⟨Z, H⟩ := H
 obtain ⟨a0, a1, H⟩ := qaf H
 refine (qaz.con Z a1 (n.ext b) s (t.ext b) u).mono ?_
 rintro _ a8 ⟨rfl, q⟩
 have c := c.ext q
 have b := qac b q
 have p := p.then q
 refine ⟨a0, rfl, qaj p, ?_⟩
 apply brc H<;>intro h H
 ·refine ⟨_, (c.a 0), _, _, _, (c.a 1), _, _, _, (c.a 2), ?_⟩
  obtain ⟨a2, H⟩ := H
  obtain ⟨a3, a4, H⟩ := qaf H
  refine (qb0.con a2 a4 (n.ext b) s (t.ext b) u).mono ?_
  rintro _ a9 ⟨rfl, a5⟩
  have b := qac b a5
  refine ⟨a3, rfl, ?_⟩
  cases f.trans H.symm
  exact ⟨rfl, b⟩
 cases f.trans H.symm
 exact ⟨rfl, b⟩
def qas.vc (t : OA) (u v : Nat) (x : OA) (y z : Nat) (A : OA) (B C : Nat) (D E a : Int) (w : World) (K : VK) : Prop :=
  newK w (.cells (vB t u v x y z A B C D E) 33) fun e o => ldB o (bx e) fun F G H I J L M N O P Q => Cl 68 #[(.agg (vB F G H I J L M N O P Q)), (iv a)] o fun R S => (∃ T : Value, (∃ (g : Int), True ∧ ∃ (h : Int), True ∧ ∃ (i : Int), True ∧ ∃ (j : Int), True ∧ T = (.agg #[(iv g), (iv h), (iv i), (iv j)]) ∧ ∃ U : Value, (∃ (k : Bool), U = (.bool k) ∧ R = (.tuple #[(.agg #[(iv g), (iv h), (iv i), (iv j)]), (.bool k)]) ∧ newK S (.cells #[(iv 0), (iv 0), (iv 0), (iv 0)] 84) fun f V => qae (bx f) [(iv g), (iv h), (iv i), (iv j)] 0 V fun l => qgl (σ := Bool × Unit) (fun p => qa1 (!k) (p (true, ()) l) (ldB l (bx e) fun W X Y Z a0 a1 a2 a3 a4 a5 a6 => Cl 65 #[(.agg (vB W X Y Z a0 a1 a2 a3 a4 a5 a6)), (iv a)] l fun a7 a8 => (∃ (q : Bool), a7 = (.bool q) ∧ p (q, ()) a8))) fun a9 b => qa1 a9.1 (K (.bool false) b) (ldI b (((bx f).add 0).add 0) fun aa => qa1 (aa == 16) (ldS b (((bx e).add 1).add 0) fun ab ac aD => (idx a ac ab fun ad => ldS b (((ad.add ((a.toNat) * 3)).add 1).add 0) fun aE ae aF => K (.bool (((ae : Nat) : Int) == 1)) b)) (ldI b ((bx f).add 0) fun af => ldI b ((bx f).add 1) fun ag => ldI b ((bx f).add 2) fun ah => ldI b ((bx f).add 3) fun ai => Cl 121 #[(.agg #[(iv af), (iv ag), (iv ah), (iv ai)])] b fun aj c => (∃ (r : Bool), aj = (.bool r) ∧ qa1 r ((∃ d : Nat → Prop, ldSM d c ((bx e).add 1) 0 fun ak al aG => (idx a al ak fun m => ldIM d c (m.add ((a.toNat) * 3)) 0 fun am => ldSM d c (m.add ((a.toNat) * 3)) 1 fun an ao ap => ldSM d c (m.add ((a.toNat) * 3)) 2 fun aq ar au => ldSM d c ((bx e).add 0) 0 fun av aw ax => Cl 122 #[(.agg #[(iv am), (sv an ao ap), (sv aq ar au)]), (sv av aw ax)] c.drew fun ay n => (∃ (s : Bool), ay = (.bool s) ∧ qaS d c n ∧ qa1 (!s) (K (.bool true) n) (ldSM d c ((bx e).add 1) 0 fun az aA aH => (idx a aA az fun aB => ldSM d c ((aB.add ((a.toNat) * 3)).add 1) 0 fun aI aC aJ => K (.bool (decide ((wrap .i64 (((aC : Nat) : Int) + 2)) ≤ 24))) n)))))) (K (.bool true) c)))))))

def qas.ann : Ann := (.seq .l (.seq .l (.seq (.one (.cut [(13, .bool)] .l (.two (.seq .l .l) (.seq .l (.two (.seq .l .l) (.seq .l (.two (.seq .l .l) .l))))))) (.seq .l .l))))

theorem qas.con {d : D.Block} {m n o : OA} {p q s : Nat} {i : Int} {r : Bool} {w : World} (T : M.qd6 d i) (j : r = M.qas d i) (t : Row el84 w m d.Code) (u : d.Code.length ≤ p) (k : RowW 52 el91 el3 w n d.Warps) (z : d.Warps.length ≤ q) (E : Row el3 w o d.Memory) (F : d.Memory.length ≤ s) :
    Cl 61 #[(.agg (bC m p n q o s d)), (iv i)] w (fun U l => U = (.bool r) ∧ Ext w l) := by
 have H := wp.qas.math d i T
 refine begK mixed Tryz.f61 ann (vc m d.Code.length p n d.Warps.length q o d.Memory.length s d.Waiting d.Phase i) ?_
 unfold vc
 unfold wp.qas at H
 refine qbx (fun V ap L4 c W => ?_)
 have b := qac (Ext.refl w) W
 refine ⟨_, _, _, (c.a 0), _, _, _, (c.a 1), _, _, _, (c.a 2), _, (c.a 3), _, (c.a 4), ?_⟩
 obtain ⟨X, H⟩ := H
 obtain ⟨f, Y, H⟩ := qaf H
 refine (qan.con X Y (t.ext b) u (k.ext b) z (E.ext b) F).mono ?_
 rintro _ aq ⟨rfl, G⟩
 refine ⟨(.agg (iC f.1)), f.1.Op, trivial, f.1.A, trivial, f.1.B, trivial, f.1.C, trivial, rfl, (.bool f.2), f.2, rfl, rfl, ?_⟩
 refine qkc (iC f.1) (fun Z ar L5 e I => ?_)
 have c := (c.ext G).ext I
 have b := qac (qac b G) I
 obtain ⟨a0, a1, H⟩ := qdJ H
 refine ⟨fun z_ l => ∃ (v : Bool), z_ = (v, ()) ∧ a0 (v, ()) ∧ Ext w l ∧ Blk l V 33 (bC m p n q o s d) ∧ Blk l Z 84 (iC f.1), ?_, ?_⟩
 ·apply brc H<;>intro h H
  ·exact ⟨true, rfl, H, b, c, e⟩
  refine ⟨_, _, _, (c.a 0), _, _, _, (c.a 1), _, _, _, (c.a 2), _, (c.a 3), _, (c.a 4), ?_⟩
  obtain ⟨a2, H⟩ := H
  obtain ⟨J, a3, H⟩ := qaf H
  refine (qbi.con a2 a3 (t.ext b) u (k.ext b) z (E.ext b) F).mono ?_
  rintro _ au ⟨rfl, x⟩
  have c := c.ext x
  have e := e.ext x
  have b := qac b x
  refine ⟨J, rfl, ?_⟩
  exact ⟨J, rfl, H, b, c, e⟩
 rintro _ av ⟨v, rfl, H, b, c, e⟩
 have H := a1 _ H
 try dsimp only at H ⊢
 apply brc H<;>intro h H
 ·cases j.trans H.symm
  exact ⟨rfl, b⟩
 refine ⟨_, (e.a 0), ?_⟩
 apply brc H<;>intro h H
 ·refine ⟨_, _, _, (c.a 1), ?_⟩
  obtain ⟨⟨K, L⟩, H⟩ := H
  obtain ⟨a4, a5, aw, ax, ay, az, aA, a6, aB, aC, aD, aE, aF⟩ := RowW.at k K L
  refine ⟨K, L, a4, a5, _, _, _, (Ext.cell b a6), ?_⟩
  cases j.trans H.symm
  exact ⟨rfl, b⟩
 refine ⟨_, (e.a 0), _, (e.a 1), _, (e.a 2), _, (e.a 3), ?_⟩
 obtain ⟨a7, a8, H⟩ := qaf H
 refine (qbU.con a8 ).mono ?_
 rintro _ a9 ⟨rfl, N⟩
 have c := c.ext N
 have b := qac b N
 refine ⟨a7, rfl, ?_⟩
 apply brc H<;>intro h H
 ·refine ⟨(fun _ => False), ?_⟩
  have hBz := b
  have Z4 := c
  refine ⟨_, _, _, noM (c.a 1), ?_⟩
  obtain ⟨⟨O, P⟩, H⟩ := H
  obtain ⟨aa, ab, aG, aH, aI, aJ, ac, ad, ae, af, ag, ah, ai⟩ := RowW.at k O P
  refine ⟨O, P, aa, ab, _, ⟨(fun g => g), (Ext.cell b ac)⟩, _, _, _, ⟨(fun g => g), (Ext.cell b ad)⟩, _, _, _, ⟨(fun g => g), (Ext.cell b ae)⟩, _, _, _, noM (c.a 0), ?_⟩
  have b := qac b (Ext.drew _)
  have y := (Chg.refl (fun _ => False) a9).then (Ext.drew _)
  obtain ⟨aj, H⟩ := H
  obtain ⟨ak, al, H⟩ := qaf H
  refine (cllA (qaK.con aj al (af.ext b) ag (ah.ext b) ai (t.ext b) u)).mono ?_
  rintro _ aK ⟨rfl, Q⟩
  have b := qac b Q
  have y := y.then Q
  refine ⟨ak, rfl, qaj y, ?_⟩
  apply brc H<;>intro h H
  ·cases j.trans H.symm
   exact ⟨rfl, b⟩
  refine ⟨_, _, _, ⟨(fun g => g), (Z4.at 1 rfl rfl)⟩, ?_⟩
  obtain ⟨⟨R, S⟩, H⟩ := H
  obtain ⟨am, an, aL, aM, aN, aO, aP, ao, aQ, aR, aS, aT, aU⟩ := RowW.at k R S
  refine ⟨R, S, am, an, _, _, _, ⟨(fun g => g), (Ext.cell hBz ao)⟩, ?_⟩
  cases j.trans H.symm
  exact ⟨rfl, b⟩
 cases j.trans H.symm
 exact ⟨rfl, b⟩
def qb7.vc (i : OA) (j k : Nat) (l : OA) (m n : Nat) (o : OA) (p q : Nat) (r s d : Int) (w : World) (K : VK) : Prop :=
  newK w (.cells (vB i j k l m n o p q r s) 33) fun e f => ldS f (((bx e).add 1).add 0) fun H a I => qdS (σ := Int × Unit) (fun b c t => qa1 (decide (b.1 < ((a : Nat) : Int))) (((((a : Nat) : Int) : Int) ≠ 0 ∧ ((((a : Nat) : Int) : Int) ≠ 0 ∧ ldB c (bx e) fun u v x y z A B C D E F => Cl 61 #[(.agg (vB u v x y z A B C D E F)), (iv (Int.tmod (wrap .i64 ((Int.tmod d ((a : Nat) : Int)) + b.1)) ((a : Nat) : Int)))] c fun G g => (∃ (h : Bool), G = (.bool h) ∧ qa1 h (K (iv (Int.tmod (wrap .i64 ((Int.tmod d ((a : Nat) : Int)) + b.1)) ((a : Nat) : Int))) g) (t ((wrap .i64 (b.1 + 1)), ()) g))))) (K (iv (-1)) c)) (0, ()) f

def qb7.ann : Ann := (.seq .l (.seq .l (.seq (.seq .l (.one (.loop [(12, .int .i64)] (.seq .l (.seq (.two .l .l) (.seq (.one (.seq .l (.seq .l (.seq .l (.two (.seq .l .l) .l))))) .l)))))) (.seq .l .l))))

theorem qb7.con {b : D.Block} {f g i : OA} {j k l : Nat} {e r : Int} {w : World} (t : M.qdF b e) (o : r = M.qb7 b e) (u : Row el84 w f b.Code) (v : b.Code.length ≤ j) (x : RowW 52 el91 el3 w g b.Warps) (y : b.Warps.length ≤ k) (z : Row el3 w i b.Memory) (A : b.Memory.length ≤ l) :
    Cl 81 #[(.agg (bC f j g k i l b)), (iv e)] w (fun B m => B = (iv r) ∧ Ext w m) := by
 have H := wp.qb7.math b e t
 refine begK mixed Tryz.f81 ann (vc f b.Code.length j g b.Warps.length k i b.Memory.length l b.Waiting b.Phase e) ?_
 unfold vc
 unfold wp.qb7 at H
 refine qbx (fun C V W c E => ?_)
 have d := qac (Ext.refl w) E
 refine ⟨_, _, _, (c.a 1), ?_⟩
 obtain ⟨F, ⟨G, I⟩, p⟩ := H
 refine ⟨fun J K m => ∃ (n : Int), K = (n, ()) ∧ F J (n, ()) ∧ Ext w m ∧ Blk m C 33 (bC f j g k i l b), ⟨G, 0, rfl, I, d, c⟩, ?_⟩
 rintro L _ X ⟨n, rfl, q, d, c⟩
 have H := p L _ q
 clear p q
 try dsimp only at H ⊢
 apply brc H<;>intro h H
 ·obtain ⟨N, H⟩ := H
  refine ⟨N, ?_⟩
  obtain ⟨O, H⟩ := H
  refine ⟨O, _, _, _, (c.a 0), _, _, _, (c.a 1), _, _, _, (c.a 2), _, (c.a 3), _, (c.a 4), ?_⟩
  obtain ⟨P, H⟩ := H
  obtain ⟨Q, R, H⟩ := qaf H
  refine (qas.con P R (u.ext d) v (x.ext d) y (z.ext d) A).mono ?_
  rintro _ Y ⟨rfl, s⟩
  have c := c.ext s
  have d := qac d s
  refine ⟨Q, rfl, ?_⟩
  apply brc H<;>intro h H
  ·cases o.trans H.symm
   exact ⟨rfl, d⟩
  obtain ⟨S, T, U⟩ := H
  exact ⟨S, T, _, rfl, U, d, c⟩
 cases o.trans H.symm
 exact ⟨rfl, d⟩
def qbV.vc (k : OA) (l m : Nat) (n : OA) (o p : Nat) (q : OA) (r s : Nat) (t u : Int) (w : World) (K : VK) : Prop :=
  newK w (.cells (vB k l m n o p q r s t u) 33) fun a f => ldB f (bx a) fun v x y z A B C D E F G => Cl 32 #[(.agg (vB v x y z A B C D E F G))] f fun H b => (∃ (g : Bool), H = (.bool g) ∧ qa1 (!g) (K (.bool false) b) (ldB b (bx a) fun I J L M N O P Q R S T => Cl 60 #[(.agg (vB I J L M N O P Q R S T))] b fun U c => (∃ (h : Bool), U = (.bool h) ∧ qa1 h (K (.bool false) c) (ldS c (((bx a).add 1).add 0) fun a9 V aa => qdS (σ := Int × Unit) (fun d e W => qa1 (decide (d.1 < ((V : Nat) : Int))) (ldB e (bx a) fun X Y Z a0 a1 a2 a3 a4 a5 a6 a7 => Cl 61 #[(.agg (vB X Y Z a0 a1 a2 a3 a4 a5 a6 a7)), (iv d.1)] e fun a8 i => (∃ (j : Bool), a8 = (.bool j) ∧ qa1 j (K (.bool false) i) (W ((wrap .i64 (d.1 + 1)), ()) i))) (K (.bool true) e)) (0, ()) c))))

def qbV.ann : Ann := (.seq .l (.seq (.seq .l (.two (.seq .l .l) .l)) (.seq (.seq .l (.one (.loop [(14, .int .i64)] (.seq .l (.seq (.two .l .l) (.seq (.one (.seq .l (.seq .l (.two (.seq .l .l) .l)))) .l)))))) (.seq .l .l))))

theorem qbV.con {d : D.Block} {e f g : OA} {i j k : Nat} {r : Bool} {w : World} (B : M.qfc d) (l : r = M.qbV d) (n : Row el84 w e d.Code) (o : d.Code.length ≤ i) (p : RowW 52 el91 el3 w f d.Warps) (q : d.Warps.length ≤ j) (s : Row el3 w g d.Memory) (t : d.Memory.length ≤ k) :
    Cl 20 #[(.agg (bC e i f j g k d))] w (fun C m => C = (.bool r) ∧ Ext w m) := by
 have H := wp.qbV.math d B
 refine begK mixed Tryz.f20 ann (vc e d.Code.length i f d.Warps.length j g d.Memory.length k d.Waiting d.Phase) ?_
 unfold vc
 unfold wp.qbV at H
 refine qbx (fun E a0 L4 b F => ?_)
 have c := qac (Ext.refl w) F
 refine ⟨_, _, _, (b.a 0), _, _, _, (b.a 1), _, _, _, (b.a 2), _, (b.a 3), _, (b.a 4), ?_⟩
 obtain ⟨G, H⟩ := H
 obtain ⟨I, J, H⟩ := qaf H
 refine (qbr.con G J (n.ext c) o (p.ext c) q (s.ext c) t).mono ?_
 rintro _ a1 ⟨rfl, v⟩
 have b := b.ext v
 have c := qac c v
 refine ⟨I, rfl, ?_⟩
 apply brc H<;>intro h H
 ·cases l.trans H.symm
  exact ⟨rfl, c⟩
 refine ⟨_, _, _, (b.a 0), _, _, _, (b.a 1), _, _, _, (b.a 2), _, (b.a 3), _, (b.a 4), ?_⟩
 obtain ⟨K, H⟩ := H
 obtain ⟨L, N, H⟩ := qaf H
 refine (qaX.con K N (n.ext c) o (p.ext c) q (s.ext c) t).mono ?_
 rintro _ a2 ⟨rfl, x⟩
 have b := b.ext x
 have c := qac c x
 refine ⟨L, rfl, ?_⟩
 apply brc H<;>intro h H
 ·cases l.trans H.symm
  exact ⟨rfl, c⟩
 refine ⟨_, _, _, (b.a 1), ?_⟩
 obtain ⟨O, ⟨P, Q⟩, y⟩ := H
 refine ⟨fun R S m => ∃ (u : Int), S = (u, ()) ∧ O R (u, ()) ∧ Ext w m ∧ Blk m E 33 (bC e i f j g k d), ⟨P, 0, rfl, Q, c, b⟩, ?_⟩
 rintro T _ a3 ⟨u, rfl, z, c, b⟩
 have H := y T _ z
 clear y z
 try dsimp only at H ⊢
 apply brc H<;>intro h H
 ·refine ⟨_, _, _, (b.a 0), _, _, _, (b.a 1), _, _, _, (b.a 2), _, (b.a 3), _, (b.a 4), ?_⟩
  obtain ⟨U, H⟩ := H
  obtain ⟨V, W, H⟩ := qaf H
  refine (qas.con U W (n.ext c) o (p.ext c) q (s.ext c) t).mono ?_
  rintro _ a4 ⟨rfl, A⟩
  have b := b.ext A
  have c := qac c A
  refine ⟨V, rfl, ?_⟩
  apply brc H<;>intro h H
  ·cases l.trans H.symm
   exact ⟨rfl, c⟩
  obtain ⟨X, Y, Z⟩ := H
  exact ⟨X, Y, _, rfl, Z, c, b⟩
 cases l.trans H.symm
 exact ⟨rfl, c⟩
def qb6.vc (i : OA) (j k : Nat) (l : OA) (m n : Nat) (o : OA) (p q : Nat) (r s : Int) (w : World) (K : VK) : Prop :=
  newK w (.cells (vB i j k l m n o p q r s) 33) fun a e => ldB e (bx a) fun t u v x y z A B C D E => Cl 20 #[(.agg (vB t u v x y z A B C D E))] e fun F b => (∃ (f : Bool), F = (.bool f) ∧ qa1 (!f) (K (.string (⟨#[]⟩)) b) (ldS b (((bx a).add 1).add 0) fun V G W => qdS (σ := Int × Unit) (fun c d H => qa1 (decide (c.1 < ((G : Nat) : Int))) (ldB d (bx a) fun I J L M N O P Q R S T => Cl 24 #[(.agg (vB I J L M N O P Q R S T)), (iv c.1)] d fun U g => (∃ (h : Bool), U = (.bool h) ∧ qa1 h (K (.string (⟨#[115, 112, 108, 105, 116]⟩)) g) (H ((wrap .i64 (c.1 + 1)), ()) g))) (K (.string (⟨#[102, 114, 97, 109, 101, 115]⟩)) d)) (0, ()) b))

def qb6.ann : Ann := (.seq .l (.seq (.seq .l (.two (.seq .l .l) .l)) (.seq (.seq .l (.one (.loop [(10, .int .i64)] (.seq .l (.seq (.two .l .l) (.seq (.one (.seq .l (.seq .l (.two (.seq .l .l) .l)))) .l)))))) (.seq .l .l))))

theorem qb6.con {c : D.Block} {e f g : OA} {i j k : Nat} {r : ByteArray} {w : World} (A : M.qe8 c) (m : r = M.qb6 c) (o : Row el84 w e c.Code) (p : c.Code.length ≤ i) (q : RowW 52 el91 el3 w f c.Warps) (s : c.Warps.length ≤ j) (t : Row el3 w g c.Memory) (u : c.Memory.length ≤ k) :
    Cl 25 #[(.agg (bC e i f j g k c))] w (fun B l => B = (.string r) ∧ Ext w l) := by
 have H := wp.qb6.math c A
 refine begK mixed Tryz.f25 ann (vc e c.Code.length i f c.Warps.length j g c.Memory.length k c.Waiting c.Phase) ?_
 unfold vc
 unfold wp.qb6 at H
 refine qbx (fun C W X b E => ?_)
 have d := qac (Ext.refl w) E
 refine ⟨_, _, _, (b.a 0), _, _, _, (b.a 1), _, _, _, (b.a 2), _, (b.a 3), _, (b.a 4), ?_⟩
 obtain ⟨F, H⟩ := H
 obtain ⟨G, I, H⟩ := qaf H
 refine (qbV.con F I (o.ext d) p (q.ext d) s (t.ext d) u).mono ?_
 rintro _ Y ⟨rfl, v⟩
 have b := b.ext v
 have d := qac d v
 refine ⟨G, rfl, ?_⟩
 apply brc H<;>intro h H
 ·cases m.trans H.symm
  exact ⟨rfl, d⟩
 refine ⟨_, _, _, (b.a 1), ?_⟩
 obtain ⟨J, ⟨K, L⟩, x⟩ := H
 refine ⟨fun N O l => ∃ (n : Int), O = (n, ()) ∧ J N (n, ()) ∧ Ext w l ∧ Blk l C 33 (bC e i f j g k c), ⟨K, 0, rfl, L, d, b⟩, ?_⟩
 rintro P _ Z ⟨n, rfl, y, d, b⟩
 have H := x P _ y
 clear x y
 try dsimp only at H ⊢
 apply brc H<;>intro h H
 ·refine ⟨_, _, _, (b.a 0), _, _, _, (b.a 1), _, _, _, (b.a 2), _, (b.a 3), _, (b.a 4), ?_⟩
  obtain ⟨Q, H⟩ := H
  obtain ⟨R, S, H⟩ := qaf H
  refine (qaQ.con Q S (o.ext d) p (q.ext d) s (t.ext d) u).mono ?_
  rintro _ a0 ⟨rfl, z⟩
  have b := b.ext z
  have d := qac d z
  refine ⟨R, rfl, ?_⟩
  apply brc H<;>intro h H
  ·cases m.trans H.symm
   exact ⟨rfl, d⟩
  obtain ⟨T, U, V⟩ := H
  exact ⟨T, U, _, rfl, V, d, b⟩
 cases m.trans H.symm
 exact ⟨rfl, d⟩
def cmp_isNaN_int.vc (a : Int) (w : World) (K : VK) : Prop :=
  K (.bool (a != a)) w

def cmp_isNaN_int.ann : Ann := (.seq .l (.seq .l .l))

theorem cmp_isNaN_int.con {a : Int} {r : Bool} {w : World} (b : r = M.cmp_isNaN_int a)  :
    Cl 158 #[(iv a)] w (fun c d => c = (.bool r) ∧ Ext w d) := by
 have H := wp.cmp_isNaN_int.math a
 have e := Ext.refl w
 refine begK mixed Tryz.f158 ann (vc a) ?_
 unfold vc
 unfold wp.cmp_isNaN_int at H
 cases b.trans H.symm
 exact ⟨rfl, e⟩
def cmp_Less_int.vc (a b : Int) (w : World) (K : VK) : Prop :=
  Cl 158 #[(iv a)] w fun g c => (∃ (d : Bool), g = (.bool d) ∧ qa1 d (Cl 158 #[(iv b)] c fun h e => (∃ (f : Bool), h = (.bool f) ∧ qa1 (!f) (K (.bool true) e) (K (.bool (decide (a < b))) e))) (K (.bool (decide (a < b))) c))

def cmp_Less_int.ann : Ann := (.seq .l (.seq .l .l))

theorem cmp_Less_int.con {b c : Int} {r : Bool} {w : World} (d : r = M.cmp_Less_int b c)  :
    Cl 235 #[(iv b), (iv c)] w (fun e f => e = (.bool r) ∧ Ext w f) := by
 have H := wp.cmp_Less_int.math b c
 refine begK mixed Tryz.f235 ann (vc b c) ?_
 unfold vc
 unfold wp.cmp_Less_int at H
 obtain ⟨g, i, H⟩ := qaf H
 refine (cmp_isNaN_int.con i ).mono ?_
 rintro _ n ⟨rfl, j⟩
 have a := qac (Ext.refl w) j
 refine ⟨g, rfl, ?_⟩
 apply brc H<;>intro h H
 ·obtain ⟨k, l, H⟩ := qaf H
  refine (cmp_isNaN_int.con l ).mono ?_
  rintro _ o ⟨rfl, m⟩
  have a := qac a m
  refine ⟨k, rfl, ?_⟩
  apply brc H<;>intro h H
  ·cases d.trans H.symm
   exact ⟨rfl, a⟩
  cases d.trans H.symm
  exact ⟨rfl, a⟩
 cases d.trans H.symm
 exact ⟨rfl, a⟩
def qai.vc (b : OA) (c O : Nat) (h C : Int) (w : World) (K : VK) : Prop :=
  qdS (σ := Int × Unit) (fun e i g => qa1 (decide (e.1 < C)) (qdS (σ := Int × Unit) (fun a d j => qgl (σ := Unit) (fun k => qa1 (decide (a.1 > h)) ((idx a.1 c b fun l => (idx (wrap .i64 (a.1 - 1)) c b fun m => ((∃ (n : Int), d.drew.cell? ((l.add ((a.1.toNat) * 1)).add 0) = some (iv n) ∧ ((∃ (o : Int), d.drew.cell? ((m.add (((wrap .i64 (a.1 - 1)).toNat) * 1)).add 0) = some (iv o) ∧ ((Cl 235 #[(iv n), (iv o)] d.drew fun D p => (∃ (q : Bool), D = (.bool q) ∧ qa1 q (k () p) (g ((wrap .i64 (e.1 + 1)), ()) p))) ∧ True)) ∧ True)) ∧ (∃ (r : Int), d.drew.cell? ((m.add (((wrap .i64 (a.1 - 1)).toNat) * 1)).add 0) = some (iv r) ∧ ((∃ (s : Int), d.drew.cell? ((l.add ((a.1.toNat) * 1)).add 0) = some (iv s) ∧ ((Cl 235 #[(iv s), (iv r)] d.drew fun E t => (∃ (u : Bool), E = (.bool u) ∧ qa1 u (k () t) (g ((wrap .i64 (e.1 + 1)), ()) t))) ∧ True)) ∧ True)) ∧ True)))) (((((((g ((wrap .i64 (e.1 + 1)), ()) d.drew) ∧ True)) ∧ True)) ∧ (((((g ((wrap .i64 (e.1 + 1)), ()) d.drew) ∧ True)) ∧ True)) ∧ True))) fun P f => (idx (wrap .i64 (a.1 - 1)) c b fun v => (idx a.1 c b fun x => ((∃ (y : Int), f.drew.cell? ((v.add (((wrap .i64 (a.1 - 1)).toNat) * 1)).add 0) = some (iv y) ∧ ((∃ (z : Int), f.drew.cell? ((x.add ((a.1.toNat) * 1)).add 0) = some (iv z) ∧ (idx a.1 c b fun F => ((qae (F.add ((a.1.toNat) * 1)) [(iv y)] 0 f.drew fun G => (idx (wrap .i64 (a.1 - 1)) c b fun H => ((qae (H.add (((wrap .i64 (a.1 - 1)).toNat) * 1)) [(iv z)] 0 G fun I => j ((wrap .i64 (a.1 - 1)), ()) I) ∧ True))) ∧ True))) ∧ True)) ∧ (∃ (A : Int), f.drew.cell? ((x.add ((a.1.toNat) * 1)).add 0) = some (iv A) ∧ ((∃ (B : Int), f.drew.cell? ((v.add (((wrap .i64 (a.1 - 1)).toNat) * 1)).add 0) = some (iv B) ∧ (idx a.1 c b fun J => ((qae (J.add ((a.1.toNat) * 1)) [(iv B)] 0 f.drew fun L => (idx (wrap .i64 (a.1 - 1)) c b fun M => ((qae (M.add (((wrap .i64 (a.1 - 1)).toNat) * 1)) [(iv A)] 0 L fun N => j ((wrap .i64 (a.1 - 1)), ()) N) ∧ True))) ∧ True))) ∧ True)) ∧ True)))) (e.1, ()) i) (K (.tuple #[]) i)) ((wrap .i64 (h + 1)), ()) w

def qai.ann : Ann := (.seq .l (.one (.loop [(6, .int .i64)] (.seq (.seq .l (.two .l .l)) (.seq (.one (.seq .l (.one (.loop [(7, .int .i64)] (.cut [] (.seq .each (.two .l .l)) (.seq (.one .each) .l)))))) .l)))))

theorem qai.con {e : List Int} {c : OA} {g : Nat} {j k : Int} {r : (List Int)} {w : World} (Y : M.qcr e j k) (Z : r = M.qai e j k) (a : Own el3 w 0 c g e) :
    Cl 229 #[(sv c e.length g), (iv j), (iv k)] w (fun v_ d => v_ = (.tuple #[]) ∧ Own el3 d 0 c g r ∧ r.length = e.length ∧ Chg (InB c) w d) := by
 have H := wp.qai.math e j k Y
 have b := Chg.refl (InB c) w
 refine begK mixed Tryz.f229 ann (vc c e.length g j k) ?_
 unfold vc
 unfold wp.qai at H
 obtain ⟨a0, ⟨a1, a2⟩, J⟩ := H
 refine ⟨fun t l d => ∃ (n : Int) (m : List Int), l = (n, ()) ∧ a0 t (n, m, ()) ∧ Chg (InB c) w d ∧ Own el3 d 0 c g m ∧ e.length = m.length, ⟨a1, (wrap .i64 (j + 1)), e, rfl, a2, b, a, (by first | rfl | assumption | omega | (simp; done) | (simp; omega) | (simp; assumption))⟩, ?_⟩
 rintro a3 _ aP ⟨n, m, rfl, K, b, a, a4⟩
 have H := J a3 _ K
 clear J K
 try dsimp only at H ⊢
 apply brc H<;>intro h H
 ·obtain ⟨a5, ⟨a6, a7⟩, L⟩ := H
  refine ⟨fun t l d => ∃ (i : Int) (f : List Int), l = (i, ()) ∧ a5 t (i, f, ()) ∧ Chg (InB c) w d ∧ Own el3 d 0 c g f ∧ e.length = f.length, ⟨a6, n, m, rfl, a7, b, a, (by first | rfl | assumption | omega | (simp; done) | (simp; omega) | (simp; assumption))⟩, ?_⟩
  rintro a8 _ aQ ⟨i, f, rfl, N, b, a, aR⟩
  have H := L a8 _ N
  clear L N
  try dsimp only at H ⊢
  obtain ⟨a9, aa, H⟩ := qdJ H
  refine ⟨fun l d => l = (()) ∧ a9 (()) ∧ Chg (InB c) w d ∧ Own el3 d 0 c g f, ?_, ?_⟩
  ·have a := a.ext (Ext.drew _)
   have b := b.then (Ext.drew _)
   apply brc H<;>intro h H
   ·obtain ⟨⟨O, u⟩, H⟩ := H
    obtain ⟨ab, ac, P⟩ := Row.at a.row O u
    refine ⟨O, (by first | exact u | omega | (simp at u ⊢; omega)), ab, ac, ?_⟩
    obtain ⟨⟨Q, v⟩, H⟩ := H
    obtain ⟨ad, ae, R⟩ := Row.at a.row Q v
    refine ⟨Q, (by first | exact v | omega | (simp at v ⊢; omega)), ad, ae, ?_⟩
    refine And.intro ?_ ?_
    ·have H := H.1
     refine ⟨_, (P 0 _ rfl), ?_⟩
     refine qcn ?_
     refine ⟨_, (R 0 _ rfl), ?_⟩
     refine qcn ?_
     obtain ⟨af, ag, H⟩ := qaf H
     refine (cmp_Less_int.con ag ).mono ?_
     rintro _ aS ⟨rfl, S⟩
     have a := a.ext S
     have b := b.then S
     refine ⟨af, rfl, ?_⟩
     apply brc H<;>intro h H
     ·exact ⟨rfl, H, b, a⟩
     obtain ⟨ah, ai, aj⟩ := H
     exact ⟨ah, ai, _, _, rfl, aj, b, a, (by first | rfl | assumption | omega | (simp; done) | (simp; omega) | (simp; assumption))⟩
    refine And.intro ?_ ?_
    ·have H := H.2.1
     refine ⟨_, (R 0 _ rfl), ?_⟩
     refine qcn ?_
     refine ⟨_, (P 0 _ rfl), ?_⟩
     refine qcn ?_
     obtain ⟨ak, al, H⟩ := qaf H
     refine (cmp_Less_int.con al ).mono ?_
     rintro _ aT ⟨rfl, T⟩
     have a := a.ext T
     have b := b.then T
     refine ⟨ak, rfl, ?_⟩
     apply brc H<;>intro h H
     ·exact ⟨rfl, H, b, a⟩
     obtain ⟨am, an, ao⟩ := H
     exact ⟨am, an, _, _, rfl, ao, b, a, (by first | rfl | assumption | omega | (simp; done) | (simp; omega) | (simp; assumption))⟩
    exact trivial
   refine And.intro ?_ ?_
   ·have H := H.1
    refine qcn ?_
    refine qcn ?_
    obtain ⟨ap, aq, ar⟩ := H
    exact ⟨ap, aq, _, _, rfl, ar, b, a, (by first | rfl | assumption | omega | (simp; done) | (simp; omega) | (simp; assumption))⟩
   refine And.intro ?_ ?_
   ·have H := H.2.1
    refine qcn ?_
    refine qcn ?_
    obtain ⟨au, av, aw⟩ := H
    exact ⟨au, av, _, _, rfl, aw, b, a, (by first | rfl | assumption | omega | (simp; done) | (simp; omega) | (simp; assumption))⟩
   exact trivial
  rintro _ aU ⟨rfl, H, b, a⟩
  have H := aa _ H
  try dsimp only at H ⊢
  have a := a.ext (Ext.drew _)
  have b := b.then (Ext.drew _)
  obtain ⟨⟨U, x⟩, H⟩ := H
  obtain ⟨ax, ay, V⟩ := Row.at a.row U x
  refine ⟨U, (by first | exact x | omega | (simp at x ⊢; omega)), ax, ay, ?_⟩
  obtain ⟨⟨W, y⟩, H⟩ := H
  obtain ⟨az, aA, X⟩ := Row.at a.row W y
  refine ⟨W, (by first | exact y | omega | (simp at y ⊢; omega)), az, aA, ?_⟩
  refine And.intro ?_ ?_
  ·have H := H.1
   refine ⟨_, (V 0 _ rfl), ?_⟩
   refine qcn ?_
   refine ⟨_, (X 0 _ rfl), ?_⟩
   obtain ⟨⟨z, o⟩, H⟩ := H
   obtain ⟨aB, A, aV⟩ := Row.at a.row z o
   refine ⟨z, (by first | exact o | omega | (simp at o ⊢; omega)), aB, A, ?_⟩
   refine qcn ?_
   refine Own.stA a A z o 0 (rd f (wrap .i64 (i - 1))) (fun aW B aC aX => ?_)
   have a := B
   obtain ⟨⟨C, p⟩, H⟩ := H
   obtain ⟨aD, D, aY⟩ := Row.at a.row C p
   refine ⟨C, (by first | exact p | omega | (simp at p ⊢; omega)), aD, D, ?_⟩
   refine qcn ?_
   refine Own.stA a D C p 0 (rd f i) (fun aZ a aE b0 => ?_)
   have b := (b.chgb aC (Or.inr ⟨_, A, rfl⟩)).chgb aE (Or.inr ⟨_, D, rfl⟩)
   obtain ⟨aF, aG, aH⟩ := H
   exact ⟨aF, aG, _, _, rfl, aH, b, a, (by first | rfl | assumption | omega | (simp; done) | (simp; omega) | (simp; assumption))⟩
  refine And.intro ?_ ?_
  ·have H := H.2.1
   refine ⟨_, (X 0 _ rfl), ?_⟩
   refine qcn ?_
   refine ⟨_, (V 0 _ rfl), ?_⟩
   obtain ⟨⟨E, q⟩, H⟩ := H
   obtain ⟨aI, F, b1⟩ := Row.at a.row E q
   refine ⟨E, (by first | exact q | omega | (simp at q ⊢; omega)), aI, F, ?_⟩
   refine qcn ?_
   refine Own.stA a F E q 0 (rd f (wrap .i64 (i - 1))) (fun b2 B aJ b3 => ?_)
   have a := B
   obtain ⟨⟨G, s⟩, H⟩ := H
   obtain ⟨aK, I, b4⟩ := Row.at a.row G s
   refine ⟨G, (by first | exact s | omega | (simp at s ⊢; omega)), aK, I, ?_⟩
   refine qcn ?_
   refine Own.stA a I G s 0 (rd f i) (fun b5 a aL b6 => ?_)
   have b := (b.chgb aJ (Or.inr ⟨_, F, rfl⟩)).chgb aL (Or.inr ⟨_, I, rfl⟩)
   obtain ⟨aM, aN, aO⟩ := H
   exact ⟨aM, aN, _, _, rfl, aO, b, a, (by first | rfl | assumption | omega | (simp; done) | (simp; omega) | (simp; assumption))⟩
  exact trivial
 cases Z.trans H.symm
 exact ⟨rfl, a, (by first | (simp only [bC, wC, List.length_set]; done) | (simp only [bC, wC, List.length_set, ← a4]; done) | (simp; done) | (simp; omega) | omega), b⟩
def qbm.vc (c : Int) (w : World) (K : VK) : Prop :=
  qgl (σ := Int × Int × Unit) (fun e => qa1 (decide (c ≥ 4294967296)) (((0 : Int) ≤ 32 ∧ e ((Int.fdiv c (2 ^ (min ((32 : Int).toNat) (IntKind.bits .u64)))), 32, ()) w)) (e (c, 0, ()) w)) fun a f => qgl (σ := Int × Int × Unit) (fun g => qa1 (decide (a.1 ≥ 65536)) (((0 : Int) ≤ 16 ∧ g ((Int.fdiv a.1 (2 ^ (min ((16 : Int).toNat) (IntKind.bits .u64)))), (wrap .i64 (a.2.1 + 16)), ()) f)) (g (a.1, a.2.1, ()) f)) fun b h => qgl (σ := Int × Int × Unit) (fun i => qa1 (decide (b.1 ≥ 256)) (((0 : Int) ≤ 8 ∧ i ((Int.fdiv b.1 (2 ^ (min ((8 : Int).toNat) (IntKind.bits .u64)))), (wrap .i64 (b.2.1 + 8)), ()) h)) (i (b.1, b.2.1, ()) h)) fun d k => ((0 : Int) ≤ IntKind.wrap .u8 d.1 ∧ ∃ j : UInt8, ((⟨#[0, 1, 2, 2, 3, 3, 3, 3, 4, 4, 4, 4, 4, 4, 4, 4, 5, 5, 5, 5, 5, 5, 5, 5, 5, 5, 5, 5, 5, 5, 5, 5, 6, 6, 6, 6, 6, 6, 6, 6, 6, 6, 6, 6, 6, 6, 6, 6, 6, 6, 6, 6, 6, 6, 6, 6, 6, 6, 6, 6, 6, 6, 6, 6, 7, 7, 7, 7, 7, 7, 7, 7, 7, 7, 7, 7, 7, 7, 7, 7, 7, 7, 7, 7, 7, 7, 7, 7, 7, 7, 7, 7, 7, 7, 7, 7, 7, 7, 7, 7, 7, 7, 7, 7, 7, 7, 7, 7, 7, 7, 7, 7, 7, 7, 7, 7, 7, 7, 7, 7, 7, 7, 7, 7, 7, 7, 7, 7, 8, 8, 8, 8, 8, 8, 8, 8, 8, 8, 8, 8, 8, 8, 8, 8, 8, 8, 8, 8, 8, 8, 8, 8, 8, 8, 8, 8, 8, 8, 8, 8, 8, 8, 8, 8, 8, 8, 8, 8, 8, 8, 8, 8, 8, 8, 8, 8, 8, 8, 8, 8, 8, 8, 8, 8, 8, 8, 8, 8, 8, 8, 8, 8, 8, 8, 8, 8, 8, 8, 8, 8, 8, 8, 8, 8, 8, 8, 8, 8, 8, 8, 8, 8, 8, 8, 8, 8, 8, 8, 8, 8, 8, 8, 8, 8, 8, 8, 8, 8, 8, 8, 8, 8, 8, 8, 8, 8, 8, 8, 8, 8, 8, 8, 8, 8, 8, 8, 8, 8, 8, 8, 8, 8, 8, 8, 8, 8]⟩) : ByteArray)[((IntKind.wrap .u8 d.1).toNat)]? = some j ∧ K (iv (wrap .i64 (d.2.1 + (wrap .i64 ((j.toNat : Nat) : Int))))) k)

def qbm.ann : Ann := (.seq .l (.cut [(0, .int .u64), (2, .int .i64)] (.seq .l (.two (.seq .l .l) .l)) (.cut [(0, .int .u64), (2, .int .i64)] (.seq .l (.two (.seq .l .l) .l)) (.cut [(0, .int .u64), (2, .int .i64)] (.seq .l (.two (.seq .l .l) .l)) (.seq .l .l)))))

theorem qbm.con {c r : Int} {w : World} (m : M.qej c) (n : r = M.qbm c)  :
    Cl 196 #[(.int .u64 c)] w (fun o b => o = (iv r) ∧ Ext w b) := by
 have H := wp.qbm.math c m
 have a := Ext.refl w
 refine begK mixed Tryz.f196 ann (vc c) ?_
 unfold vc
 unfold wp.qbm at H
 obtain ⟨p, q, H⟩ := qdJ H
 refine ⟨fun d b => ∃ (e f : Int), d = (e, f, ()) ∧ p (e, f, ()) ∧ Ext w b, ?_, ?_⟩
 ·apply brc H<;>intro h H
  ·refine ⟨by decide, ?_⟩
   exact ⟨_, 32, rfl, H, a⟩
  exact ⟨c, 0, rfl, H, a⟩
 rintro _ B ⟨e, f, rfl, H, a⟩
 have H := q _ H
 try dsimp only at H ⊢
 obtain ⟨s, t, H⟩ := qdJ H
 refine ⟨fun d b => ∃ (g i : Int), d = (g, i, ()) ∧ s (g, i, ()) ∧ Ext w b, ?_, ?_⟩
 ·apply brc H<;>intro h H
  ·refine ⟨by decide, ?_⟩
   exact ⟨_, _, rfl, H, a⟩
  exact ⟨e, f, rfl, H, a⟩
 rintro _ C ⟨g, i, rfl, H, a⟩
 have H := t _ H
 try dsimp only at H ⊢
 obtain ⟨u, v, H⟩ := qdJ H
 refine ⟨fun d b => ∃ (j k : Int), d = (j, k, ()) ∧ u (j, k, ()) ∧ Ext w b, ?_, ?_⟩
 ·apply brc H<;>intro h H
  ·refine ⟨by decide, ?_⟩
   exact ⟨_, _, rfl, H, a⟩
  exact ⟨g, i, rfl, H, a⟩
 rintro _ D ⟨j, k, rfl, H, a⟩
 have H := v _ H
 try dsimp only at H ⊢
 obtain ⟨⟨l, x⟩, H⟩ := H
 obtain ⟨y, z, A⟩ := qmx l x
 refine ⟨l, y, z, ?_⟩
 rw [A]
 cases n.trans H.symm
 exact ⟨rfl, a⟩
def qco.vc (b : Int) (w : World) (K : VK) : Prop :=
  Cl 196 #[(.int .u64 b)] w fun c d => (∃ (a : Int), c = (iv a) ∧ K (iv a) d)

def qco.ann : Ann := (.seq .l (.seq (.two (.seq .l .l) .l) (.seq .l .l)))

theorem qco.con {a r : Int} {w : World} (b : M.qeY a) (c : r = M.qco a)  :
    Cl 157 #[(.int .u64 a)] w (fun d e => d = (iv r) ∧ Ext w e) := by
 have H := wp.qco.math a b
 refine begK mixed Tryz.f157 ann (vc a) ?_
 unfold vc
 unfold wp.qco at H
 obtain ⟨f, H⟩ := H
 obtain ⟨g, h, H⟩ := qaf H
 refine (qbm.con f h ).mono ?_
 rintro _ k ⟨rfl, i⟩
 have j := qac (Ext.refl w) i
 refine ⟨g, rfl, ?_⟩
 cases c.trans H.symm
 exact ⟨rfl, j⟩
def qay.vc (b : OA) (c d : Nat) (C D E : Int) (w : World) (K : VK) : Prop :=
  qdS (σ := Int × Int × Int × Bool × Bool × Unit) (fun a i o => qa1 (decide ((wrap .i64 (a.2.1 - a.1)) ≤ 12)) (Cl 229 #[(sv b c d), (iv a.1), (iv a.2.1)] i fun F G => (F = (.tuple #[]) ∧ K (.tuple #[]) G)) (qa1 (a.2.2.1 == 0) (Cl 230 #[(sv b c d), (iv a.1), (iv a.2.1)] i fun H I => (H = (.tuple #[]) ∧ K (.tuple #[]) I)) (qgl (σ := Int × Unit) (fun q => qa1 (!a.2.2.2.1) (Cl 231 #[(sv b c d), (iv a.1), (iv a.2.1)] i fun J L => (J = (.tuple #[]) ∧ q ((wrap .i64 (a.2.2.1 - 1)), ()) L)) (q (a.2.2.1, ()) i)) fun f M => Cl 232 #[(sv b c d), (iv a.1), (iv a.2.1)] M fun N r => (∃ O : Value, (∃ (j : Int), O = (iv j) ∧ ∃ P : Value, (∃ (k : Int), P = (iv k) ∧ N = (.tuple #[(iv j), (iv k)]) ∧ qgl (σ := Int × Int × Unit) (fun s => qa1 (k == 2) (Cl 233 #[(sv b c d), (iv a.1), (iv a.2.1)] r fun Q R => (Q = (.tuple #[]) ∧ s ((wrap .i64 ((wrap .i64 (a.2.1 - 1)) - (wrap .i64 (j - a.1)))), 1, ()) R)) (s (j, k, ()) r)) fun g l => qgl (σ := Unit) (fun m => qa1 a.2.2.2.1 (qa1 a.2.2.2.2.1 (qa1 (g.2.1 == 1) (Cl 234 #[(sv b c d), (iv a.1), (iv a.2.1)] l fun S t => (∃ (u : Bool), S = (.bool u) ∧ qa1 u (K (.tuple #[]) t) (m () t))) (m () l)) (m () l)) (m () l)) fun a8 h => qgl (σ := Bool × Unit) (fun v => (∃ p : Nat → Prop, qa1 (decide (a.1 > 0)) ((idx (wrap .i64 (a.1 - 1)) c b fun T => ldIM p h (T.add (((wrap .i64 (a.1 - 1)).toNat) * 1)) 0 fun U => (idx g.1 c b fun V => ldIM p h (V.add ((g.1.toNat) * 1)) 0 fun W => Cl 235 #[(iv U), (iv W)] h.drew fun X x => (∃ (y : Bool), X = (.bool y) ∧ qaS p h x ∧ v ((!y), ()) x)))) (v (false, ()) h.drew))) fun Y z => qa1 Y.1 (Cl 236 #[(sv b c d), (iv a.1), (iv a.2.1), (iv g.1)] z fun Z a0 => (∃ (A : Int), Z = (iv A) ∧ o (A, a.2.1, f.1, a.2.2.2.1, a.2.2.2.2.1, ()) a0)) (Cl 237 #[(sv b c d), (iv a.1), (iv a.2.1), (iv g.1)] z fun a1 B => (∃ a2 : Value, (∃ (e : Int), a2 = (iv e) ∧ ∃ a3 : Value, (∃ (n : Bool), a3 = (.bool n) ∧ a1 = (.tuple #[(iv e), (.bool n)]) ∧ ((8 : Int) ≠ 0 ∧ qa1 (decide ((wrap .i64 (e - a.1)) < (wrap .i64 (a.2.1 - e)))) (Cl 209 #[(sv b c d), (iv a.1), (iv e), (iv f.1)] B fun a4 a5 => (a4 = (.tuple #[]) ∧ o ((wrap .i64 (e + 1)), a.2.1, f.1, (decide ((wrap .i64 (e - a.1)) ≥ (wrap .i64 (Int.tdiv (wrap .i64 (a.2.1 - a.1)) 8)))), n, ()) a5)) (Cl 209 #[(sv b c d), (iv (wrap .i64 (e + 1))), (iv a.2.1), (iv f.1)] B fun a6 a7 => (a6 = (.tuple #[]) ∧ o (a.1, e, f.1, (decide ((wrap .i64 (a.2.1 - e)) ≥ (wrap .i64 (Int.tdiv (wrap .i64 (a.2.1 - a.1)) 8)))), n, ()) a7))))))))))))) (C, D, E, true, true, ()) w

def qay.ann : Ann := (.seq .l (.seq .l (.one (.loop [(1, .int .i64), (2, .int .i64), (3, .int .i64), (8, .bool), (9, .bool)] (.one (.seq .l (.seq (.seq .l (.two (.seq .l .l) .l)) (.seq (.seq .l (.two (.seq .l .l) .l)) (.cut [(3, .int .i64)] (.seq .l (.two (.seq .l .l) .l)) (.seq .l (.cut [(11, .int .i64), (12, .int .i64)] (.seq .l (.two (.seq .l (.seq .l .l)) .l)) (.cut [] (.seq .l (.two (.seq .l (.two .l .l)) .l)) (.seq (.cut [(87, .bool)] .l (.two (.seq .l (.seq .l .l)) .l)) (.seq .l (.seq .l (.seq .l (.seq .l (.seq .l (.two (.seq .l (.seq .l .l)) (.seq .l (.seq .l .l)))))))))))))))))))))

theorem qay.con {a : List Int} {b : OA} {f : Nat} {c d e : Int} {r : (List Int)} {w : World} (t : M.qcU a c d e) (u : r = M.qay a c d e) (i : Own el3 w 0 b f a) :
    Cl 209 #[(sv b a.length f), (iv c), (iv d), (iv e)] w (fun v j => v = (.tuple #[]) ∧ Own el3 j 0 b f r ∧ r.length = a.length ∧ Chg (InB b) w j) := by
 have H := wp.qay.math a c d e t
 have k := Chg.refl (InB b) w
 refine begK mixed Tryz.f209 ann (vc b a.length f c d e) ?_
 unfold vc
 unfold wp.qay at H
 obtain ⟨x, ⟨y, z⟩, q⟩ := H
 refine ⟨fun A B j => ∃ (l m n : Int) (o p : Bool), B = (l, m, n, o, p, ()) ∧ x A (l, m, n, o, p, ()) ∧ Chg (InB b) w j ∧ Own el3 j 0 b f a, ⟨y, c, d, e, true, true, rfl, z, k, i⟩, ?_⟩
 rintro C _ K ⟨l, m, n, o, p, rfl, s, k, i⟩
 have H := q C _ s
 clear q s
 try dsimp only at H ⊢
 apply brc H<;>intro h H
 ·obtain ⟨D, H⟩ := H
  obtain ⟨L, E, H⟩ := qaf H
  refine (qai.con D E (i.mono (Nat.zero_le _))).mono ?_
  rintro _ N ⟨rfl, F, G, I⟩
  have k := k.chg I (fun g J => (Or.inr J))
  have i := F
  refine ⟨rfl, ?_⟩
  cases u.trans H.symm
  exact ⟨rfl, i, (by first | (simp only [bC, wC, List.length_set]; done) | (simp only [bC, wC, List.length_set, G]; done) | (simp; done) | (simp; omega) | omega), k⟩
 apply brc H<;>intro h H
 ·exact H.elim
 exact H.elim
def qaF.vc (c : OA) (a d : Nat) (w : World) (K : VK) : Prop :=
  Cl 157 #[(.int .u64 (IntKind.wrap .u64 ((a : Nat) : Int)))] w fun e f => (∃ (b : Int), e = (iv b) ∧ Cl 209 #[(sv c a d), (iv 0), (iv ((a : Nat) : Int)), (iv b)] f fun g h => (g = (.tuple #[]) ∧ K (.tuple #[]) h))

def qaF.ann : Ann := (.seq .l .l)

theorem qaF.con {a : List Int} {b : OA} {d : Nat} {r : (List Int)} {w : World} (h : M.qdy a) (i : r = M.qaF a) (c : Own el3 w 0 b d a) :
    Cl 180 #[(sv b a.length d)] w (fun j e => j = (.tuple #[]) ∧ Own el3 e 0 b d r ∧ r.length = a.length ∧ Chg (InB b) w e) := by
 have H := wp.qaF.math a h
 refine begK mixed Tryz.f180 ann (vc b a.length d) ?_
 unfold vc
 unfold wp.qaF at H
 obtain ⟨k, H⟩ := H
 obtain ⟨l, m, H⟩ := qaf H
 refine (qco.con k m ).mono ?_
 rintro _ v ⟨rfl, f⟩
 have c := c.ext f
 refine ⟨l, rfl, ?_⟩
 obtain ⟨n, H⟩ := H
 obtain ⟨x, o, H⟩ := qaf H
 refine (qay.con n o (c.mono (Nat.zero_le _))).mono ?_
 rintro _ y ⟨rfl, p, q, s⟩
 have t := ((Chg.refl (InB b) w).then f).chg s (fun g u => (Or.inr u))
 have c := p
 refine ⟨rfl, ?_⟩
 cases i.trans H.symm
 exact ⟨rfl, c, (by first | (simp only [bC, wC, List.length_set]; done) | (simp only [bC, wC, List.length_set, q]; done) | (simp; done) | (simp; omega) | omega), t⟩
def qam.vc (c : OA) (d e : Nat) (w : World) (K : VK) : Prop :=
  qa1 (decide (((d : Nat) : Int) < 2)) (K (sv c d e) w) (qdS (σ := Int × Unit) (fun b g j => qa1 (decide (b.1 < ((d : Nat) : Int))) ((idx b.1 d c fun k => ldI g ((k.add ((b.1.toNat) * 1)).add 0) fun l => (idx (wrap .i64 (b.1 - 1)) d c fun m => ldI g ((m.add (((wrap .i64 (b.1 - 1)).toNat) * 1)).add 0) fun n => qa1 (l == n) (((0 : Int) ≤ b.1 ∧ b.1 ≤ ((d : Nat) : Int) ∧ qdS (σ := Int × Int × Unit) (fun a f h => qa1 (decide (a.2.1 < (((d - (b.1.toNat)) : Nat) : Int))) ((idx a.2.1 (d - (b.1.toNat)) ((if e = (b.1.toNat) then c else c.map (·.add ((b.1.toNat) * szOf Tryz.prog 3)))) fun o => ldI f ((o.add ((a.2.1.toNat) * 1)).add 0) fun p => (idx (wrap .i64 (a.2.1 - 1)) (d - (b.1.toNat)) ((if e = (b.1.toNat) then c else c.map (·.add ((b.1.toNat) * szOf Tryz.prog 3)))) fun q => ldI f ((q.add (((wrap .i64 (a.2.1 - 1)).toNat) * 1)).add 0) fun r => qa1 (p != r) ((idx a.2.1 (d - (b.1.toNat)) ((if e = (b.1.toNat) then c else c.map (·.add ((b.1.toNat) * szOf Tryz.prog 3)))) fun s => ∃ (i : Int), f.drew.cell? ((s.add ((a.2.1.toNat) * 1)).add 0) = some (iv i) ∧ (idx a.1 d c fun t => qae (t.add ((a.1.toNat) * 1)) [(iv i)] 0 f.drew fun u => h ((wrap .i64 (a.1 + 1)), (wrap .i64 (a.2.1 + 1)), ()) u))) (h (a.1, (wrap .i64 (a.2.1 + 1)), ()) f.drew)))) (((0 : Int) ≤ a.1 ∧ a.1 ≤ ((d : Nat) : Int) ∧ Run Tryz.prog (Builtin.clear_ #[24] 0 #[(sv (if e = (a.1.toNat) then c else c.map (·.add ((a.1.toNat) * szOf Tryz.prog 3))) (d - (a.1.toNat)) (e - (a.1.toNat)))]) f fun v x => v = .tuple #[] ∧ ((0 : Int) ≤ a.1 ∧ a.1 ≤ ((e : Nat) : Int) ∧ K (sv c (a.1.toNat) e) x)))) (b.1, 1, ()) g.drew)) (j ((wrap .i64 (b.1 + 1)), ()) g.drew)))) (K (sv c d e) g)) (1, ()) w)

def qam.ann : Ann := (.seq .l (.seq (.seq .l (.two (.seq .l .l) .l)) (.seq (.seq .l (.one (.loop [(3, .int .i64)] (.seq (.seq .l (.two .l .l)) (.seq (.one (.seq .l (.two (.seq .l (.seq (.seq .l (.one (.loop [(3, .int .i64), (5, .int .i64)] (.seq (.seq .l (.two .l .l)) (.seq (.one (.seq .l (.two (.seq .l .l) .l))) .l))))) (.seq .l (.seq .l .l)))) .l))) .l))))) (.seq .l .l))))

theorem qam.con {b r : List Int} {c : OA} {f : Nat} {w : World} (B : M.qd8 b) (k : r = M.qam b) (a : Own el3 w 0 c f b) :
    Cl 181 #[(sv c b.length f)] w (fun C i => ∃ (m : OA) (q : Nat), C = (sv m r.length q) ∧ Own el3 i 0 m q r ∧ Mov w c m ∧ Chg (InB c) w i) := by
 have H := wp.qam.math b B
 have d := Chg.refl (InB c) w
 refine begK mixed Tryz.f181 ann (vc c b.length f) ?_
 unfold vc
 unfold wp.qam at H
 apply brc H<;>intro h H
 ·cases k.trans H.symm
  exact ⟨c, f, rfl, (a.mono (Nat.zero_le _)), (Mov.same _ _), d⟩
 obtain ⟨D, ⟨E, F⟩, s⟩ := H
 refine ⟨fun n o i => ∃ (j : Int), o = (j, ()) ∧ D n (j, ()) ∧ Chg (InB c) w i ∧ Own el3 i 0 c f b, ⟨E, 1, rfl, F, d, a⟩, ?_⟩
 rintro G _ a4 ⟨j, rfl, t, d, a⟩
 have H := s G _ t
 clear s t
 try dsimp only at H ⊢
 apply brc H<;>intro h H
 ·obtain ⟨⟨u, v⟩, H⟩ := H
  obtain ⟨I, J, K⟩ := Row.at a.row u v
  refine ⟨u, v, I, J, _, (K 0 _ rfl), ?_⟩
  obtain ⟨⟨x, y⟩, H⟩ := H
  obtain ⟨L, N, O⟩ := Row.at a.row x y
  refine ⟨x, y, L, N, _, (O 0 _ rfl), ?_⟩
  have a := a.ext (Ext.drew _)
  have d := d.then (Ext.drew _)
  apply brc H<;>intro h H
  ·obtain ⟨⟨P, Q⟩, H⟩ := H
   refine and_assoc.1 ⟨⟨P, Q⟩, ?_⟩
   rw [show (b.length - (j.toNat)) = ((List.drop (j.toNat) b)).length from by first | rfl | (simp; done) | (simp; omega)]
   obtain ⟨R, ⟨S, T⟩, z⟩ := H
   refine ⟨fun n o i => ∃ (e p : Int), o = (e, p, ()) ∧ R n (e, p, ()) ∧ Chg (InB c) w i ∧ Own el3 i 0 c f b, ⟨S, j, 1, rfl, T, d, a⟩, ?_⟩
   rintro U _ a5 ⟨e, p, rfl, A, d, a⟩
   have H := z U _ A
   clear z A
   try dsimp only at H ⊢
   apply brc H<;>intro h H
   ·exact H.elim
   obtain ⟨⟨V, W⟩, H⟩ := H
   refine and_assoc.1 ⟨⟨V, W⟩, ?_⟩
   rw [show (b.length - (e.toNat)) = ((List.drop (e.toNat) b)).length from by first | rfl | (simp; done) | (simp; omega)]
   refine qkW qgP a (l := (e.toNat)) (by first | omega | (simp; omega)) (by first | rfl | (simp; done) | (simp; omega)) (fun a6 a X => ?_)
   have d := d.app X (fun g Y => (Or.inr Y))
   obtain ⟨⟨Z, a0⟩, H⟩ := H
   refine and_assoc.1 ⟨⟨Z, Int.le_trans a0 (Int.ofNat_le.2 a.le)⟩, ?_⟩
   rw [show (e.toNat) = ((List.take (e.toNat) (List.take (e.toNat) b ++ List.replicate (b.length - (e.toNat)) default))).length from by first | rfl | (simp; done) | (simp; omega)]
   have O4 := (a.take (e.toNat))
   cases k.trans H.symm
   exact ⟨c, f, rfl, (O4.mono (Nat.zero_le _)), (Mov.same _ _), d⟩
  obtain ⟨a1, a2, a3⟩ := H
  exact ⟨a1, a2, _, rfl, a3, d, a⟩
 cases k.trans H.symm
 exact ⟨c, f, rfl, (a.mono (Nat.zero_le _)), (Mov.same _ _), d⟩
def qcm.vc (z : OA) (e W : Nat) (a : Int) (w : World) (K : VK) : Prop :=
  qa1 (a == ((e : Nat) : Int)) (Run Tryz.prog (Instr.buildSlice 24 0 #[]) w fun A B => ∃ (j : OA) (k l : Nat), A = .slice j k l ∧ K (sv j k l) B) ((idx a e z fun c => ldI w ((c.add ((a.toNat) * 4)).add 0) fun C => ldI w ((c.add ((a.toNat) * 4)).add 1) fun D => ldI w ((c.add ((a.toNat) * 4)).add 2) fun E => ldI w ((c.add ((a.toNat) * 4)).add 3) fun F => newK w (.cells #[(iv 0), (iv 0), (iv 0), (iv 0)] 84) fun d G => qae (bx d) [(iv C), (iv D), (iv E), (iv F)] 0 G fun b => ldI b (((bx d).add 0).add 0) fun f => qa1 (f == 12) (Run Tryz.prog (Instr.buildSlice 24 1 #[(0, (iv ((e : Nat) : Int)))]) b fun H I => ∃ (m : OA) (n o : Nat), H = .slice m n o ∧ K (sv m n o) I) (qa1 (f == 11) (ldI b (((bx d).add 2).add 0) fun J => Run Tryz.prog (Instr.buildSlice 24 1 #[(0, (iv J))]) b fun L M => ∃ (p : OA) (q r : Nat), L = .slice p q r ∧ K (sv p q r) M) (qa1 (f == 10) (ldI b (((bx d).add 2).add 0) fun N => Run Tryz.prog (Instr.buildSlice 24 2 #[(0, (iv N)), (1, (iv (wrap .i64 (a + 1))))]) b fun O P => ∃ (g : OA) (h i : Nat), O = .slice g h i ∧ Cl 180 #[(sv g h i)] P fun Q R => (Q = (.tuple #[]) ∧ Cl 181 #[(sv g h i)] R fun S T => (∃ (s : OA) (t u : Nat), S = (sv s t u) ∧ K (sv s t u) T))) (Run Tryz.prog (Instr.buildSlice 24 1 #[(0, (iv (wrap .i64 (a + 1))))]) b fun U V => ∃ (v : OA) (x y : Nat), U = .slice v x y ∧ K (sv v x y) V)))))

def qcm.ann : Ann := (.seq .l (.seq (.seq .l (.two (.seq .l .l) .l)) (.seq (.seq .l (.seq .l (.one (.seq .l (.two (.seq .l .l) (.seq .l (.two (.seq .l .l) (.seq .l (.two (.seq .l (.seq .l (.seq .l .l))) .l))))))))) (.seq .l .l))))

theorem qcm.con {c : List D.Ins} {i : OA} {j : Nat} {d : Int} {r : List Int} {w : World} (y : M.qdZ c d) (f : r = M.qcm c d) (z : Row el84 w i c) (a8 : c.length ≤ j) :
    Cl 147 #[(sv i c.length j), (iv d)] w (fun E l => ∃ (m : OA) (n : Nat), E = (sv m r.length n) ∧ Own el3 l w.heap.size m n r ∧ Ext w l) := by
 have H := wp.qcm.math c d y
 have b := Ext.refl w
 refine begK mixed Tryz.f147 ann (vc i c.length j d) ?_
 unfold vc
 unfold wp.qcm at H
 apply brc H<;>intro h H
 ·refine qaY el3 ([] : List Int) (fun _ => by kernel_rfl) rfl (fun F a9 G I => ?_)
  have o := G.mono b.size
  have b := qac b I
  cases f.trans H.symm
  exact ⟨F, 0, (by first | rfl | (simp; done) | (simp; omega) | (simp [*]; done)), (by first | exact o | (simp only [bC, wC, List.length_set]; exact o)), b⟩
 obtain ⟨⟨p, q⟩, H⟩ := H
 obtain ⟨J, K, g⟩ := Row.at (z.ext b) p q
 refine ⟨p, q, J, K, _, (g 0 _ rfl), _, (g 1 _ rfl), _, (g 2 _ rfl), _, (g 3 _ rfl), ?_⟩
 refine qkc #[(iv ((rd c d).Op)), (iv ((rd c d).A)), (iv ((rd c d).B)), (iv ((rd c d).C))] (fun aa ab L3 k L => ?_)
 have b := qac b L
 refine ⟨_, (k.a 0), ?_⟩
 apply brc H<;>intro h H
 ·refine qaY el3 ([(c.length : Int)] : List Int) (fun _ => by kernel_rfl) rfl (fun N ac O P => ?_)
  have s := O.mono b.size
  have b := qac b P
  cases f.trans H.symm
  exact ⟨N, 1, (by first | rfl | (simp; done) | (simp; omega) | (simp [*]; done)), (by first | exact s | (simp only [bC, wC, List.length_set]; exact s)), b⟩
 apply brc H<;>intro h H
 ·refine ⟨_, (k.a 2), ?_⟩
  refine qaY el3 ([(rd c d).B] : List Int) (fun _ => by kernel_rfl) rfl (fun Q ad R S => ?_)
  have t := R.mono b.size
  have b := qac b S
  cases f.trans H.symm
  exact ⟨Q, 1, (by first | rfl | (simp; done) | (simp; omega) | (simp [*]; done)), (by first | exact t | (simp only [bC, wC, List.length_set]; exact t)), b⟩
 apply brc H<;>intro h H
 ·refine ⟨_, (k.a 2), ?_⟩
  refine qaY el3 ([(rd c d).B, (wrap .i64 (d + 1))] : List Int) (fun _ => by kernel_rfl) rfl (fun ae af T U => ?_)
  have e := T.mono b.size
  have b := qac b U
  obtain ⟨V, H⟩ := H
  obtain ⟨ag, W, H⟩ := qaf H
  refine (cllA (qaF.con V W (e.mono (Nat.zero_le _)))).mono ?_
  rintro _ ah ⟨rfl, X, Y, Z⟩
  have b := Chg.ext b Z e.low
  have e := X.up e
  refine ⟨rfl, ?_⟩
  obtain ⟨a0, H⟩ := H
  obtain ⟨a1, a2, H⟩ := qaf H
  refine (qho (by first | (simp only [bC, wC, List.length_set, Y]; done) | (simp; done)) (qam.con a0 a2 (e.mono (Nat.zero_le _)))).mono ?_
  rintro _ ai ⟨u, v, rfl, P7, a3, a4⟩
  have a5 := a3.low e.low b.size
  have b := Chg.ext b a4 e.low
  have O7 := P7.lift a5
  refine ⟨u, a1.length, v, rfl, ?_⟩
  cases f.trans H.symm
  exact ⟨u, v, rfl, O7, b⟩
 refine qaY el3 ([(wrap .i64 (d + 1))] : List Int) (fun _ => by kernel_rfl) rfl (fun a6 aj P8 a7 => ?_)
 have x := P8.mono b.size
 have b := qac b a7
 cases f.trans H.symm
 exact ⟨a6, 1, (by first | rfl | (simp; done) | (simp; omega) | (simp [*]; done)), (by first | exact x | (simp only [bC, wC, List.length_set]; exact x)), b⟩
def qb4.vc (c : OA) (b d : Nat) (w : World) (K : VK) : Prop :=
  Cl 75 #[(sv c b d)] w fun t e => (∃ (f : Bool), t = (.bool f) ∧ qa1 (!f) (K (sv none 0 0) e) (Run Tryz.prog (Instr.buildSlice 24 0 #[]) e fun u v => ∃ (g : OA) (h i : Nat), u = .slice g h i ∧ qdS (σ := (OA × Nat × Nat) × Int × Unit) (fun a j k => qa1 (decide (a.2.1 < ((b : Nat) : Int))) (Cl 147 #[(sv c b d), (iv a.2.1)] j fun x l => (∃ (y : OA) (m z : Nat), x = (sv y m z) ∧ qa1 (((m : Nat) : Int) == 2) (Run Tryz.prog (Instr.buildSlice 24 1 #[(0, (iv a.2.1))]) l fun A B => ∃ (n : OA) (o p : Nat), A = .slice n o p ∧ Run Tryz.prog (Builtin.append_ #[24, 24] 24 #[(sv a.1.1 a.1.2.1 a.1.2.2), (sv n o p)]) B fun C D => ∃ (q : OA) (r s : Nat), C = .slice q r s ∧ k ((q, r, s), (wrap .i64 (a.2.1 + 1)), ()) D) (k ((a.1.1, a.1.2.1, a.1.2.2), (wrap .i64 (a.2.1 + 1)), ()) l))) (K (sv a.1.1 a.1.2.1 a.1.2.2) j)) ((g, h, i), 0, ()) v))

def qb4.ann : Ann := (.seq .l (.seq (.seq .l (.two (.seq .l .l) .l)) (.seq .l (.seq (.seq .l (.one (.loop [(3, .sl), (11, .int .i64)] (.seq .l (.seq (.two .l .l) (.seq (.one (.seq .l (.seq .l (.two .l .l)))) .l)))))) (.seq .l .l)))))

theorem qb4.con {c : List D.Ins} {j : OA} {k : Nat} {r : List Int} {w : World} (v : M.qdC c) (l : r = M.qb4 c) (m : Row el84 w j c) (n : c.length ≤ k) :
    Cl 91 #[(sv j c.length k)] w (fun x d => ∃ (o : OA) (p : Nat), x = (sv o r.length p) ∧ Own el3 d w.heap.size o p r ∧ Ext w d) := by
 have H := wp.qb4.math c v
 have a := Ext.refl w
 refine begK mixed Tryz.f91 ann (vc j c.length k) ?_
 unfold vc
 unfold wp.qb4 at H
 obtain ⟨y, H⟩ := H
 obtain ⟨z, A, H⟩ := qaf H
 refine (qaD.con y A (m.ext a) n).mono ?_
 rintro _ a7 ⟨rfl, B⟩
 have a := qac a B
 refine ⟨z, rfl, ?_⟩
 apply brc H<;>intro h H
 ·cases l.trans H.symm
  exact ⟨none, 0, rfl, Own.nil, a⟩
 refine qaY el3 ([] : List Int) (fun _ => by kernel_rfl) rfl (fun C a8 E F => ?_)
 have G := E.mono a.size
 have a := qac a F
 obtain ⟨I, ⟨J, K⟩, q⟩ := H
 refine ⟨fun L N d => ∃ (e : List Int) (i : Int) (f : OA) (g : Nat), N = ((f, e.length, g), i, ()) ∧ I L (e, i, ()) ∧ Ext w d ∧ Own el3 d w.heap.size f g e, ⟨J, ([] : List Int), 0, C, 0, rfl, K, a, G⟩, ?_⟩
 rintro O _ a9 ⟨e, i, f, g, rfl, s, a, b⟩
 have H := q O _ s
 clear q s
 try dsimp only at H ⊢
 apply brc H<;>intro h H
 ·obtain ⟨P, H⟩ := H
  obtain ⟨Q, R, H⟩ := qaf H
  refine (qcm.con P R (m.ext a) n).mono ?_
  rintro _ aa ⟨S, T, rfl, P4, t⟩
  have b := b.ext t
  have a := qac a t
  refine ⟨S, Q.length, T, rfl, ?_⟩
  apply brc H<;>intro h H
  ·refine qaY el3 ([i] : List Int) (fun _ => by kernel_rfl) rfl (fun ab ac U u => ?_)
   have b := b.ext u
   have V := U.mono a.size
   have a := qac a u
   obtain ⟨W, H⟩ := H
   refine appO qgP b V.row a.size W (fun X Y ad Z a0 => ?_)
   have a := eapp a a0 b
   have b := Z
   obtain ⟨a1, a2, a3⟩ := H
   exact ⟨a1, a2, _, _, X, Y, rfl, a3, a, b⟩
  obtain ⟨a4, a5, a6⟩ := H
  exact ⟨a4, a5, e, _, f, g, rfl, a6, a, b⟩
 cases l.trans H.symm
 exact ⟨f, g, rfl, b, a⟩
def qbZ.vc (e : OA) (f g : Nat) (h : Int) (w : World) (K : VK) : Prop :=
  Cl 91 #[(sv e f g)] w fun i j => (∃ (a : OA) (b c : Nat), i = (sv a b c) ∧ Cl 182 #[(sv a b c), (iv h)] j fun k l => (∃ (d : Bool), k = (.bool d) ∧ K (.bool d) l))

def qbZ.ann : Ann := (.seq .l (.seq .l .l))

theorem qbZ.con {a : List D.Ins} {d : OA} {e : Nat} {b : Int} {r : Bool} {w : World} (g : M.qe2 a b) (h : r = M.qbZ a b) (i : Row el84 w d a) (j : a.length ≤ e) :
    Cl 148 #[(sv d a.length e), (iv b)] w (fun k l => k = (.bool r) ∧ Ext w l) := by
 have H := wp.qbZ.math a b g
 have c := Ext.refl w
 refine begK mixed Tryz.f148 ann (vc d a.length e b) ?_
 unfold vc
 unfold wp.qbZ at H
 obtain ⟨m, H⟩ := H
 obtain ⟨n, o, H⟩ := qaf H
 refine (qb4.con m o (i.ext c) j).mono ?_
 rintro _ z ⟨p, q, rfl, s, t⟩
 have f := s.mono c.size
 refine ⟨p, n.length, q, rfl, ?_⟩
 obtain ⟨u, H⟩ := H
 obtain ⟨v, x, H⟩ := qaf H
 refine (qaL.con u x f.row f.le).mono ?_
 rintro _ A ⟨rfl, y⟩
 have c := qac (qac c t) y
 refine ⟨v, rfl, ?_⟩
 cases h.trans H.symm
 exact ⟨rfl, c⟩
def qbF.vc (q : OA) (b r : Nat) (s : OA) (t u : Nat) (v : Int) (w : World) (K : VK) : Prop :=
  qge Tryz.prog 149 (wrap .i64 (((b : Nat) : Int) + 1)) (wrap .i64 (((b : Nat) : Int) + 1)) w fun e x => Cl 128 #[(sv s t u)] x fun y z => (∃ (g : OA) (h i : Nat), y = (sv g h i) ∧ qdS (σ := (OA × Nat × Nat) × Unit) (fun a c f => qa1 (decide (((a.1.2.1 : Nat) : Int) > 0)) ((idx 0 a.1.2.1 a.1.1 fun A => ldI c ((A.add (((0 : Int).toNat) * 1)).add 0) fun d => ((0 : Int) ≤ 1 ∧ 1 ≤ ((a.1.2.1 : Nat) : Int) ∧ qa1 (d == v) (f (((if a.1.2.2 = ((1 : Int).toNat) then a.1.1 else a.1.1.map (·.add (((1 : Int).toNat) * szOf Tryz.prog 3))), (a.1.2.1 - ((1 : Int).toNat)), (a.1.2.2 - ((1 : Int).toNat))), ()) c) ((idx d ((wrap .i64 (((b : Nat) : Int) + 1)).toNat) ((some (bx e))) fun B => ∃ (j : Bool), c.cell? ((B.add ((d.toNat) * 1)).add 0) = some (.bool j) ∧ qa1 j (f (((if a.1.2.2 = ((1 : Int).toNat) then a.1.1 else a.1.1.map (·.add (((1 : Int).toNat) * szOf Tryz.prog 3))), (a.1.2.1 - ((1 : Int).toNat)), (a.1.2.2 - ((1 : Int).toNat))), ()) c) ((idx d ((wrap .i64 (((b : Nat) : Int) + 1)).toNat) ((some (bx e))) fun C => qae (C.add ((d.toNat) * 1)) [(.bool true)] 0 c fun D => Cl 147 #[(sv q b r), (iv d)] D fun E F => (∃ (k : OA) (l m : Nat), E = (sv k l m) ∧ Run Tryz.prog (Builtin.append_ #[24, 24] 24 #[(sv (if a.1.2.2 = ((1 : Int).toNat) then a.1.1 else a.1.1.map (·.add (((1 : Int).toNat) * szOf Tryz.prog 3))) (a.1.2.1 - ((1 : Int).toNat)) (a.1.2.2 - ((1 : Int).toNat))), (sv k l m)]) F fun G H => ∃ (n : OA) (o p : Nat), G = .slice n o p ∧ f ((n, o, p), ()) H)))))))) (K (sv (some (bx e)) ((wrap .i64 (((b : Nat) : Int) + 1)).toNat) ((wrap .i64 (((b : Nat) : Int) + 1)).toNat)) c)) ((g, h, i), ()) z)

def qbF.ann : Ann := (.seq .l (.seq .l (.seq .l (.seq (.one (.loop [(8, .sl)] (.seq (.seq .l (.two .l .l)) (.one (.seq .l (.seq .l (.seq (.seq .l (.two .l .l)) (.seq .l .l)))))))) (.seq .l .l)))))

theorem qbF.con {c : List D.Ins} {p q : OA} {s t : Nat} {e : List Int} {k : Int} {r : List Bool} {w : World} (S : M.qdI c e k) (T : r = M.qbF c e k) (U : Row el84 w p c) (V : c.length ≤ s) (W : Row el3 w q e) (X : e.length ≤ t) :
    Cl 150 #[(sv p c.length s), (sv q e.length t), (iv k)] w (fun Y g => ∃ (B : OA) (C : Nat), Y = (sv B r.length C) ∧ Own el4 g w.heap.size B C r ∧ Ext w g) := by
 have H := wp.qbF.math c e k S
 have a := Ext.refl w
 refine begK mixed Tryz.f150 ann (vc p c.length s q e.length t k) ?_
 unfold vc
 unfold wp.qbF at H
 obtain ⟨⟨Z, a0⟩, H⟩ := H
 refine qgQ qnW Z a0 (fun E aE u a1 => ?_)
 have b := u.mono a.size
 have a := qac a a1
 obtain ⟨a2, H⟩ := H
 obtain ⟨F, a3, H⟩ := qaf H
 refine (qag.con a2 a3 (W.ext a) X).mono ?_
 rintro _ aF ⟨G, I, rfl, P4, J⟩
 have b := b.ext J
 have O4 := P4.mono a.size
 have a := qac a J
 refine ⟨G, F.length, I, rfl, ?_⟩
 obtain ⟨a4, ⟨a5, a6⟩, K⟩ := H
 refine ⟨fun m_ z_ g => ∃ (i : List Int) (j : List Bool) (v : OA) (x : Nat), z_ = ((v, i.length, x), ()) ∧ a4 m_ (i, j, ()) ∧ Ext w g ∧ Own el3 g w.heap.size v x i ∧ Own el4 g w.heap.size (some (bx E)) ((wrap .i64 ((c.length : Int) + 1)).toNat) j ∧ ((wrap .i64 ((c.length : Int) + 1)).toNat) = j.length, ⟨a5, F, (List.replicate ((wrap .i64 ((c.length : Int) + 1)).toNat) (default : Bool)), G, I, rfl, a6, a, O4, b, (by first | rfl | assumption | omega | (simp; done) | (simp; omega) | (simp; assumption))⟩, ?_⟩
 rintro a7 _ aG ⟨i, j, v, x, rfl, L, a, f, b, N⟩
 have H := K a7 _ L
 clear K L
 try dsimp only at H ⊢
 apply brc H<;>intro h H
 ·obtain ⟨⟨O, P⟩, H⟩ := H
  obtain ⟨a8, a9, aa⟩ := Row.at f.row O P
  refine ⟨O, P, a8, a9, _, (aa 0 _ rfl), ?_⟩
  obtain ⟨⟨ab, ac⟩, H⟩ := H
  refine and_assoc.1 ⟨⟨ab, ac⟩, ?_⟩
  rw [show (i.length - ((1 : Int).toNat)) = ((List.drop ((1 : Int).toNat) i)).length from by first | rfl | (simp; done) | (simp; omega)]
  have d := (f.drop (l := ((1 : Int).toNat)) (by first | omega | (simp; done) | (simp; omega)))
  apply brc H<;>intro h H
  ·obtain ⟨ad, ae, af⟩ := H
   exact ⟨ad, ae, _, j, _, _, rfl, af, a, d, b, (by first | rfl | assumption | omega | (simp; done) | (simp; omega) | (simp; assumption))⟩
  obtain ⟨⟨Q, y⟩, H⟩ := H
  obtain ⟨ag, ah, ai⟩ := Row.at b.row Q y
  refine ⟨Q, (by first | exact y | omega | (simp at y ⊢; omega)), ag, ah, _, (ai 0 _ rfl), ?_⟩
  apply brc H<;>intro h H
  ·obtain ⟨aj, ak, al⟩ := H
   exact ⟨aj, ak, _, j, _, _, rfl, al, a, d, b, (by first | rfl | assumption | omega | (simp; done) | (simp; omega) | (simp; assumption))⟩
  obtain ⟨⟨z, m⟩, H⟩ := H
  obtain ⟨am, n, aH⟩ := Row.at b.row z m
  refine ⟨z, (by first | exact m | omega | (simp at m ⊢; omega)), am, n, ?_⟩
  refine Own.stA b n z m 0 true (fun aI u A an => ?_)
  have ao := f.chg A (((Own.qaw f b (by decide))).left n)
  have d := d.chg A (((qjX (Own.qaw f b (by decide)))).left n)
  have a := echg a A an
  obtain ⟨ap, H⟩ := H
  obtain ⟨aq, ar, H⟩ := qaf H
  refine (qcm.con ap ar (U.ext a) V).mono ?_
  rintro _ aJ ⟨au, av, rfl, aw, o⟩
  have b := u.ext o
  have f := ao.ext o
  have d := d.ext o
  have ax := aw.mono a.size
  have a := qac a o
  refine ⟨au, aq.length, av, rfl, ?_⟩
  obtain ⟨ay, H⟩ := H
  refine appO qgP d ax.row a.size ay (fun az aA aK P9 R => ?_)
  have b := b.app R (qjX (Own.qaw b f (by decide)).symm).symm
  have a := eapp a R d
  have d := P9
  obtain ⟨aB, aC, aD⟩ := H
  exact ⟨aB, aC, _, _, az, aA, rfl, aD, a, d, b, (by first | rfl | assumption | omega | (simp; done) | (simp; omega) | (simp; assumption))⟩
 cases T.trans H.symm
 exact ⟨(some (bx E)), ((wrap .i64 ((c.length : Int) + 1)).toNat), (by first | rfl | (rw [N]; done) | (simp; done) | (simp; omega) | (simp [*]; done)), (by first | exact b | (simp only [bC, wC, List.length_set]; exact b) | (rw [← N]; exact b)), a⟩
def qbk.vc (i : OA) (a j : Nat) (k : Int) (w : World) (K : VK) : Prop :=
  Run Tryz.prog (Instr.buildSlice 24 1 #[(0, (iv k))]) w fun l m => ∃ (b : OA) (c d : Nat), l = .slice b c d ∧ Cl 150 #[(sv i a j), (sv b c d), (iv (-1))] m fun n e => (∃ (f : OA) (g o : Nat), n = (sv f g o) ∧ (idx ((a : Nat) : Int) g f fun p => ∃ (h : Bool), e.cell? ((p.add ((((a : Nat) : Int).toNat) * 1)).add 0) = some (.bool h) ∧ K (.bool h) e))

def qbk.ann : Ann := (.seq .l (.seq .l .l))

theorem qbk.con {b : List D.Ins} {d : OA} {e : Nat} {c : Int} {r : Bool} {w : World} (i : M.qdp b c) (j : r = M.qbk b c) (k : Row el84 w d b) (l : b.length ≤ e) :
    Cl 183 #[(sv d b.length e), (iv c)] w (fun m n => m = (.bool r) ∧ Ext w n) := by
 have H := wp.qbk.math b c i
 have a := Ext.refl w
 refine begK mixed Tryz.f183 ann (vc d b.length e c) ?_
 unfold vc
 unfold wp.qbk at H
 refine qaY el3 ([c] : List Int) (fun _ => by kernel_rfl) rfl (fun E F o p => ?_)
 have f := o.mono a.size
 have a := qac a p
 obtain ⟨q, H⟩ := H
 obtain ⟨s, t, H⟩ := qaf H
 refine (cllA (qbF.con q t (k.ext a) l f.row f.le)).mono ?_
 rintro _ G ⟨u, v, rfl, x, y⟩
 have z := x.mono a.size
 have a := qac a y
 refine ⟨u, s.length, v, rfl, ?_⟩
 obtain ⟨⟨g, h⟩, H⟩ := H
 obtain ⟨A, B, C⟩ := Row.at z.row g h
 refine ⟨g, h, A, B, _, (C 0 _ rfl), ?_⟩
 cases j.trans H.symm
 exact ⟨rfl, a⟩
def qcj.vc (e : OA) (a f : Nat) (g : Int) (w : World) (K : VK) : Prop :=
  Cl 75 #[(sv e a f)] w fun h b => (∃ (c : Bool), h = (.bool c) ∧ qa1 c (Cl 78 #[(iv g), (iv 0), (iv ((a : Nat) : Int))] b fun i j => (∃ (d : Bool), i = (.bool d) ∧ K (.bool d) j)) (K (.bool false) b))

def qcj.ann : Ann := (.seq .l (.seq .l .l))

theorem qcj.con {a : List D.Ins} {d : OA} {e : Nat} {c : Int} {r : Bool} {w : World} (g : M.qeD a c) (f : r = M.qcj a c) (i : Row el84 w d a) (j : a.length ≤ e) :
    Cl 249 #[(sv d a.length e), (iv c)] w (fun k l => k = (.bool r) ∧ Ext w l) := by
 have H := wp.qcj.math a c g
 have b := Ext.refl w
 refine begK mixed Tryz.f249 ann (vc d a.length e c) ?_
 unfold vc
 unfold wp.qcj at H
 obtain ⟨m, H⟩ := H
 obtain ⟨n, o, H⟩ := qaf H
 refine (qaD.con m o (i.ext b) j).mono ?_
 rintro _ u ⟨rfl, p⟩
 have b := qac b p
 refine ⟨n, rfl, ?_⟩
 apply brc H<;>intro h H
 ·obtain ⟨q, s, H⟩ := qaf H
  refine (qah.con s ).mono ?_
  rintro _ v ⟨rfl, t⟩
  have b := qac b t
  refine ⟨q, rfl, ?_⟩
  cases f.trans H.symm
  exact ⟨rfl, b⟩
 cases f.trans H.symm
 exact ⟨rfl, b⟩
def qbN.vc (b : OA) (a c : Nat) (d n : Int) (w : World) (K : VK) : Prop :=
  Cl 183 #[(sv b a c), (iv d)] w fun o e => (∃ (f : Bool), o = (.bool f) ∧ qa1 f (Run Tryz.prog (Instr.buildSlice 24 1 #[(0, (iv d))]) e fun p q => ∃ (g : OA) (h i : Nat), p = .slice g h i ∧ Cl 150 #[(sv b a c), (sv g h i), (iv n)] q fun r j => (∃ (k : OA) (l s : Nat), r = (sv k l s) ∧ (idx ((a : Nat) : Int) l k fun t => ∃ (m : Bool), j.cell? ((t.add ((((a : Nat) : Int).toNat) * 1)).add 0) = some (.bool m) ∧ K (.bool (!m)) j))) (K (.bool false) e))

def qbN.ann : Ann := (.seq .l (.seq .l .l))

theorem qbN.con {b : List D.Ins} {e : OA} {f : Nat} {c d : Int} {r : Bool} {w : World} (n : M.qeg b c d) (g : r = M.qbN b c d) (i : Row el84 w e b) (j : b.length ≤ f) :
    Cl 239 #[(sv e b.length f), (iv c), (iv d)] w (fun o p => o = (.bool r) ∧ Ext w p) := by
 have H := wp.qbN.math b c d n
 have a := Ext.refl w
 refine begK mixed Tryz.f239 ann (vc e b.length f c d) ?_
 unfold vc
 unfold wp.qbN at H
 obtain ⟨q, H⟩ := H
 obtain ⟨s, t, H⟩ := qaf H
 refine (qbk.con q t (i.ext a) j).mono ?_
 rintro _ L ⟨rfl, u⟩
 have a := qac a u
 refine ⟨s, rfl, ?_⟩
 apply brc H<;>intro h H
 ·refine qaY el3 ([c] : List Int) (fun _ => by kernel_rfl) rfl (fun N O v x => ?_)
  have k := v.mono a.size
  have a := qac a x
  obtain ⟨y, H⟩ := H
  obtain ⟨z, A, H⟩ := qaf H
  refine (cllA (qbF.con y A (i.ext a) j k.row k.le)).mono ?_
  rintro _ P ⟨B, C, rfl, E, F⟩
  have G := E.mono a.size
  have a := qac a F
  refine ⟨B, z.length, C, rfl, ?_⟩
  obtain ⟨⟨l, m⟩, H⟩ := H
  obtain ⟨I, J, K⟩ := Row.at G.row l m
  refine ⟨l, m, I, J, _, (K 0 _ rfl), ?_⟩
  cases g.trans H.symm
  exact ⟨rfl, a⟩
 cases g.trans H.symm
 exact ⟨rfl, a⟩
def qbp.vc (a : OA) (b c : Nat) (d e : Int) (w : World) (K : VK) : Prop :=
  Cl 249 #[(sv a b c), (iv d)] w fun k f => (∃ (g : Bool), k = (.bool g) ∧ qa1 g (Cl 249 #[(sv a b c), (iv e)] f fun l h => (∃ (i : Bool), l = (.bool i) ∧ qa1 i (Cl 239 #[(sv a b c), (iv d), (iv e)] h fun m n => (∃ (j : Bool), m = (.bool j) ∧ K (.bool j) n)) (K (.bool false) h))) (K (.bool false) f))

def qbp.ann : Ann := (.seq .l (.seq .l .l))

theorem qbp.con {b : List D.Ins} {e : OA} {f : Nat} {c d : Int} {r : Bool} {w : World} (k : M.qfg b c d) (g : r = M.qbp b c d) (i : Row el84 w e b) (j : b.length ≤ f) :
    Cl 240 #[(sv e b.length f), (iv c), (iv d)] w (fun l m => l = (.bool r) ∧ Ext w m) := by
 have H := wp.qbp.math b c d k
 have a := Ext.refl w
 refine begK mixed Tryz.f240 ann (vc e b.length f c d) ?_
 unfold vc
 unfold wp.qbp at H
 obtain ⟨n, H⟩ := H
 obtain ⟨o, p, H⟩ := qaf H
 refine (qcj.con n p (i.ext a) j).mono ?_
 rintro _ B ⟨rfl, q⟩
 have a := qac a q
 refine ⟨o, rfl, ?_⟩
 apply brc H<;>intro h H
 ·obtain ⟨s, H⟩ := H
  obtain ⟨t, u, H⟩ := qaf H
  refine (qcj.con s u (i.ext a) j).mono ?_
  rintro _ C ⟨rfl, v⟩
  have a := qac a v
  refine ⟨t, rfl, ?_⟩
  apply brc H<;>intro h H
  ·obtain ⟨x, H⟩ := H
   obtain ⟨y, z, H⟩ := qaf H
   refine (qbN.con x z (i.ext a) j).mono ?_
   rintro _ E ⟨rfl, A⟩
   have a := qac a A
   refine ⟨y, rfl, ?_⟩
   cases g.trans H.symm
   exact ⟨rfl, a⟩
  cases g.trans H.symm
  exact ⟨rfl, a⟩
 cases g.trans H.symm
 exact ⟨rfl, a⟩
def qbA.vc (p : OA) (b q : Nat) (r : Int) (w : World) (K : VK) : Prop :=
  Run Tryz.prog (Instr.buildSlice 24 0 #[]) w fun s t => ∃ (c : OA) (d e : Nat), s = .slice c d e ∧ qdS (σ := (OA × Nat × Nat) × Int × Unit) (fun a f g => qa1 (decide (a.2.1 < (wrap .i64 (((b : Nat) : Int) + 1)))) (Cl 240 #[(sv p b q), (iv r), (iv a.2.1)] f fun u h => (∃ (i : Bool), u = (.bool i) ∧ qa1 i (Run Tryz.prog (Instr.buildSlice 24 1 #[(0, (iv a.2.1))]) h fun v x => ∃ (j : OA) (k l : Nat), v = .slice j k l ∧ Run Tryz.prog (Builtin.append_ #[24, 24] 24 #[(sv a.1.1 a.1.2.1 a.1.2.2), (sv j k l)]) x fun y z => ∃ (m : OA) (n o : Nat), y = .slice m n o ∧ g ((m, n, o), (wrap .i64 (a.2.1 + 1)), ()) z) (g ((a.1.1, a.1.2.1, a.1.2.2), (wrap .i64 (a.2.1 + 1)), ()) h))) (K (sv a.1.1 a.1.2.1 a.1.2.2) f)) ((c, d, e), 0, ()) t

def qbA.ann : Ann := (.seq .l (.seq .l (.seq (.seq .l (.one (.loop [(5, .sl), (11, .int .i64)] (.seq .l (.seq (.two .l .l) (.seq (.one (.seq .l (.seq .l (.two .l .l)))) .l)))))) (.seq .l .l))))

theorem qbA.con {c : List D.Ins} {k : OA} {l : Nat} {d : Int} {r : List Int} {w : World} (t : M.qeV c d) (u : r = M.qbA c d) (v : Row el84 w k c) (x : c.length ≤ l) :
    Cl 213 #[(sv k c.length l), (iv d)] w (fun y e => ∃ (m : OA) (n : Nat), y = (sv m r.length n) ∧ Own el3 e w.heap.size m n r ∧ Ext w e) := by
 have H := wp.qbA.math c d t
 have a := Ext.refl w
 refine begK mixed Tryz.f213 ann (vc k c.length l d) ?_
 unfold vc
 unfold wp.qbA at H
 refine qaY el3 ([] : List Int) (fun _ => by kernel_rfl) rfl (fun z a2 A B => ?_)
 have C := A.mono a.size
 have a := qac a B
 obtain ⟨E, ⟨F, G⟩, o⟩ := H
 refine ⟨fun I J e => ∃ (f : List Int) (j : Int) (g : OA) (i : Nat), J = ((g, f.length, i), j, ()) ∧ E I (f, j, ()) ∧ Ext w e ∧ Own el3 e w.heap.size g i f, ⟨F, ([] : List Int), 0, z, 0, rfl, G, a, C⟩, ?_⟩
 rintro K _ a3 ⟨f, j, g, i, rfl, p, a, b⟩
 have H := o K _ p
 clear o p
 try dsimp only at H ⊢
 apply brc H<;>intro h H
 ·obtain ⟨L, H⟩ := H
  obtain ⟨N, O, H⟩ := qaf H
  refine (qbp.con L O (v.ext a) x).mono ?_
  rintro _ a4 ⟨rfl, q⟩
  have b := b.ext q
  have a := qac a q
  refine ⟨N, rfl, ?_⟩
  apply brc H<;>intro h H
  ·refine qaY el3 ([j] : List Int) (fun _ => by kernel_rfl) rfl (fun a5 a6 P s => ?_)
   have b := b.ext s
   have Q := P.mono a.size
   have a := qac a s
   obtain ⟨R, H⟩ := H
   refine appO qgP b Q.row a.size R (fun S T a7 U V => ?_)
   have a := eapp a V b
   have b := U
   obtain ⟨W, X, Y⟩ := H
   exact ⟨W, X, _, _, S, T, rfl, Y, a, b⟩
  obtain ⟨Z, a0, a1⟩ := H
  exact ⟨Z, a0, f, _, g, i, rfl, a1, a, b⟩
 cases u.trans H.symm
 exact ⟨g, i, rfl, b, a⟩
def qbh.vc (a : Int) (b : Addr) (w : World) (K : VK) : Prop :=
  ldI w (b.add 0) fun c => K (.bool (a == c)) w

def qbh.ann : Ann := (.seq .l (.seq .l .l))

theorem qbh.con {b c : Int} {d : Nat} {r : Bool} {w : World} (e : M.qdY b c) (f : r = M.qbh b c) (g : Blk w d 3 #[(iv c)]) :
    Cl 214 #[(iv b), (.pointer (some (bx d)))] w (fun h i => h = (.bool r) ∧ Ext w i) := by
 have H := wp.qbh.math b c e
 have j := Ext.refl w
 refine begK mixed Tryz.f214 ann (vc b (bx d)) ?_
 unfold vc
 unfold wp.qbh at H
 refine ⟨_, (g.a 0), ?_⟩
 cases f.trans H.symm
 exact ⟨rfl, j⟩
end Go.V
