import Derived.Test.YtkpfabigipedcaaGreatLoMath3
import Derived.Test.YtkpfabigipedcaaGreatLoSeat
import Derived.Test.YtkpfabigipedcaaGreatLoVFoc
namespace Go.V
open Go.Proofs
open IntKind (wrap)
set_option linter.unusedVariables false
set_option linter.unusedSimpArgs false
set_option maxRecDepth 100000
def qar.vc (a b c : Int) (w : World) (K : VK) : Prop :=
  qa1 (decide (a ≥ b)) (K (.bool (decide (a ≤ c))) w) (K (.bool false) w)

def qar.ann : Ann := (.seq .l (.seq .l .l))

theorem qar.con {a b c : Int} {r : Bool} {w : World} (d : r = M.qar a b c)  :
    Cl 78 #[(iv a), (iv b), (iv c)] w (fun f g => f = (.bool r) ∧ Ext w g) := by
 have H := wp.qar.math a b c
 have e := Ext.refl w
 refine begK mixed Tryz.f78 ann (vc a b c) ?_
 unfold vc
 unfold wp.qar at H
 apply brc H<;>intro h H
 ·cases d.trans H.symm
  exact ⟨rfl, e⟩
 cases d.trans H.symm
 exact ⟨rfl, e⟩
def qaV.vc (a b c : Int) (w : World) (K : VK) : Prop :=
  qa1 (decide (a ≥ b)) (K (.bool (decide (a ≤ c))) w) (K (.bool false) w)

def qaV.ann : Ann := (.seq .l (.seq .l .l))

theorem qaV.con {a b c : Int} {r : Bool} {w : World} (d : r = M.qaV a b c)  :
    Cl 99 #[(iv a), (iv b), (iv c)] w (fun f g => f = (.bool r) ∧ Ext w g) := by
 have H := wp.qaV.math a b c
 have e := Ext.refl w
 refine begK mixed Tryz.f99 ann (vc a b c) ?_
 unfold vc
 unfold wp.qaV at H
 apply brc H<;>intro h H
 ·cases d.trans H.symm
  exact ⟨rfl, e⟩
 cases d.trans H.symm
 exact ⟨rfl, e⟩
def qbJ.vc (b : Int) (w : World) (K : VK) : Prop :=
  Cl 78 #[(iv b), (iv 0), (iv 65535)] w fun c d => (∃ (a : Bool), c = (.bool a) ∧ K (.bool a) d)

def qbJ.ann : Ann := (.seq .l (.seq .l .l))

theorem qbJ.con {a : Int} {r : Bool} {w : World} (b : r = M.qbJ a)  :
    Cl 178 #[(iv a)] w (fun c d => c = (.bool r) ∧ Ext w d) := by
 have H := wp.qbJ.math a
 refine begK mixed Tryz.f178 ann (vc a) ?_
 unfold vc
 unfold wp.qbJ at H
 obtain ⟨e, f, H⟩ := qaa H
 refine (qar.con f ).mono ?_
 rintro _ i ⟨rfl, g⟩
 have h := qa6 (Ext.refl w) g
 refine ⟨e, rfl, ?_⟩
 cases b.trans H.symm
 exact ⟨rfl, h⟩
def qbd.vc (b : Int) (w : World) (K : VK) : Prop :=
  Cl 99 #[(iv b), (iv 0), (iv 65535)] w fun c d => (∃ (a : Bool), c = (.bool a) ∧ K (.bool a) d)

def qbd.ann : Ann := (.seq .l (.seq .l .l))

theorem qbd.con {a : Int} {r : Bool} {w : World} (b : r = M.qbd a)  :
    Cl 204 #[(iv a)] w (fun c d => c = (.bool r) ∧ Ext w d) := by
 have H := wp.qbd.math a
 refine begK mixed Tryz.f204 ann (vc a) ?_
 unfold vc
 unfold wp.qbd at H
 obtain ⟨e, f, H⟩ := qaa H
 refine (qaV.con f ).mono ?_
 rintro _ i ⟨rfl, g⟩
 have h := qa6 (Ext.refl w) g
 refine ⟨e, rfl, ?_⟩
 cases b.trans H.symm
 exact ⟨rfl, h⟩
def qdl.vc (b : Int) (w : World) (K : VK) : Prop :=
  Cl 78 #[(iv b), (iv 0), (iv 255)] w fun c d => (∃ (a : Bool), c = (.bool a) ∧ K (.bool a) d)

def qdl.ann : Ann := (.seq .l (.seq .l .l))

theorem qdl.con {a : Int} {r : Bool} {w : World} (b : r = M.qdl a)  :
    Cl 179 #[(iv a)] w (fun c d => c = (.bool r) ∧ Ext w d) := by
 have H := wp.qdl.math a
 refine begK mixed Tryz.f179 ann (vc a) ?_
 unfold vc
 unfold wp.qdl at H
 obtain ⟨e, f, H⟩ := qaa H
 refine (qar.con f ).mono ?_
 rintro _ i ⟨rfl, g⟩
 have h := qa6 (Ext.refl w) g
 refine ⟨e, rfl, ?_⟩
 cases b.trans H.symm
 exact ⟨rfl, h⟩
def qe1.vc (b : Int) (w : World) (K : VK) : Prop :=
  Cl 78 #[(iv b), (iv 0), (iv 7)] w fun c d => (∃ (a : Bool), c = (.bool a) ∧ K (.bool a) d)

def qe1.ann : Ann := (.seq .l (.seq .l .l))

theorem qe1.con {a : Int} {r : Bool} {w : World} (b : r = M.qe1 a)  :
    Cl 186 #[(iv a)] w (fun c d => c = (.bool r) ∧ Ext w d) := by
 have H := wp.qe1.math a
 refine begK mixed Tryz.f186 ann (vc a) ?_
 unfold vc
 unfold wp.qe1 at H
 obtain ⟨e, f, H⟩ := qaa H
 refine (qar.con f ).mono ?_
 rintro _ i ⟨rfl, g⟩
 have h := qa6 (Ext.refl w) g
 refine ⟨e, rfl, ?_⟩
 cases b.trans H.symm
 exact ⟨rfl, h⟩
def qcY.vc (b a : Int) (w : World) (K : VK) : Prop :=
  Cl 179 #[(iv b)] w fun g c => (∃ (d : Bool), g = (.bool d) ∧ qa1 d (Cl 186 #[(iv a)] c fun h e => (∃ (f : Bool), h = (.bool f) ∧ qa1 f (((0 : Int) ≤ a ∧ K (.bool ((qdQ .i64 (Int.fdiv b (2 ^ (min (a.toNat) (IntKind.bits .i64)))) 1) == 1)) e)) (K (.bool false) e))) (K (.bool false) c))

def qcY.ann : Ann := (.seq .l (.seq .l .l))

theorem qcY.con {b c : Int} {r : Bool} {w : World} (d : r = M.qcY b c)  :
    Cl 155 #[(iv b), (iv c)] w (fun e f => e = (.bool r) ∧ Ext w f) := by
 have H := wp.qcY.math b c
 refine begK mixed Tryz.f155 ann (vc b c) ?_
 unfold vc
 unfold wp.qcY at H
 obtain ⟨g, i, H⟩ := qaa H
 refine (qdl.con i ).mono ?_
 rintro _ o ⟨rfl, j⟩
 have a := qa6 (Ext.refl w) j
 refine ⟨g, rfl, ?_⟩
 apply brc H<;>intro h H
 ·obtain ⟨k, l, H⟩ := qaa H
  refine (qe1.con l ).mono ?_
  rintro _ p ⟨rfl, m⟩
  have a := qa6 a m
  refine ⟨k, rfl, ?_⟩
  apply brc H<;>intro h H
  ·obtain ⟨n, H⟩ := H
   refine ⟨n, ?_⟩
   cases d.trans H.symm
   exact ⟨rfl, a⟩
  cases d.trans H.symm
  exact ⟨rfl, a⟩
 cases d.trans H.symm
 exact ⟨rfl, a⟩
def qc8.vc (o : Int) (w : World) (K : VK) : Prop :=
  Run Tryz.prog (Instr.buildSlice 24 0 #[]) w fun p q => ∃ (b : OA) (c d : Nat), p = .slice b c d ∧ qdh (σ := (OA × Nat × Nat) × Int × Unit) (fun a e f => qa1 (decide (a.2.1 < 8)) (Cl 155 #[(iv o), (iv a.2.1)] e fun r g => (∃ (h : Bool), r = (.bool h) ∧ qa1 h (Run Tryz.prog (Instr.buildSlice 24 1 #[(0, (iv a.2.1))]) g fun s t => ∃ (i : OA) (j k : Nat), s = .slice i j k ∧ Run Tryz.prog (Builtin.append_ #[24, 24] 24 #[(sv a.1.1 a.1.2.1 a.1.2.2), (sv i j k)]) t fun u v => ∃ (l : OA) (m n : Nat), u = .slice l m n ∧ f ((l, m, n), (wrap .i64 (a.2.1 + 1)), ()) v) (f ((a.1.1, a.1.2.1, a.1.2.2), (wrap .i64 (a.2.1 + 1)), ()) g))) (K (sv a.1.1 a.1.2.1 a.1.2.2) e)) ((b, c, d), 0, ()) q

def qc8.ann : Ann := (.seq .l (.seq .l (.seq (.seq .l (.one (.loop [(3, .sl), (6, .int .i64)] (.seq .l (.seq (.two .l .l) (.seq (.one (.seq .l (.seq .l (.two .l .l)))) .l)))))) (.seq .l .l))))

theorem qc8.con {g : Int} {r : List Int} {w : World} (p : r = M.qc8 g)  :
    Cl 105 #[(iv g)] w (fun q c => ∃ (j : OA) (k : Nat), q = (sv j r.length k) ∧ Own el3 c w.heap.size j k r ∧ Ext w c) := by
 have H := wp.qc8.math g
 have a := Ext.refl w
 refine begK mixed Tryz.f105 ann (vc g) ?_
 unfold vc
 unfold wp.qc8 at H
 refine qaz el3 ([] : List Int) (fun _ => by kernel_rfl) rfl (fun s U t u => ?_)
 have v := t.mono a.size
 have a := qa6 a u
 obtain ⟨x, ⟨y, z⟩, l⟩ := H
 refine ⟨fun A B c => ∃ (d : List Int) (i : Int) (e : OA) (f : Nat), B = ((e, d.length, f), i, ()) ∧ x A (d, i, ()) ∧ Ext w c ∧ Own el3 c w.heap.size e f d, ⟨y, ([] : List Int), 0, s, 0, rfl, z, a, v⟩, ?_⟩
 rintro C _ V ⟨d, i, e, f, rfl, m, a, b⟩
 have H := l C _ m
 clear l m
 try dsimp only at H ⊢
 apply brc H<;>intro h H
 ·obtain ⟨D, E, H⟩ := qaa H
  refine (qcY.con E ).mono ?_
  rintro _ W ⟨rfl, n⟩
  have b := b.ext n
  have a := qa6 a n
  refine ⟨D, rfl, ?_⟩
  apply brc H<;>intro h H
  ·refine qaz el3 ([i] : List Int) (fun _ => by kernel_rfl) rfl (fun X Y F o => ?_)
   have b := b.ext o
   have G := F.mono a.size
   have a := qa6 a o
   obtain ⟨I, H⟩ := H
   refine appO qgO b G.row a.size I (fun J K Z L N => ?_)
   have a := eapp a N b
   have b := L
   obtain ⟨O, P, Q⟩ := H
   exact ⟨O, P, _, _, J, K, rfl, Q, a, b⟩
  obtain ⟨R, S, T⟩ := H
  exact ⟨R, S, d, _, e, f, rfl, T, a, b⟩
 cases p.trans H.symm
 exact ⟨e, f, rfl, b, a⟩
def qby.vc (a : Int) (w : World) (K : VK) : Prop :=
  ((65536 : Int) ≠ 0 ∧ ((65536 : Int) ≠ 0 ∧ K (iv (Int.tmod (wrap .i64 ((Int.tmod a 65536) + 65536)) 65536)) w))

def qby.ann : Ann := (.seq .l (.seq .l .l))

theorem qby.con {a r : Int} {w : World} (b : r = M.qby a)  :
    Cl 245 #[(iv a)] w (fun c d => c = (iv r) ∧ Ext w d) := by
 have H := wp.qby.math a
 have e := Ext.refl w
 refine begK mixed Tryz.f245 ann (vc a) ?_
 unfold vc
 unfold wp.qby at H
 refine ⟨by decide, by decide, ?_⟩
 cases b.trans H.symm
 exact ⟨rfl, e⟩
def qbA.vc (a b : Int) (w : World) (K : VK) : Prop :=
  Cl 204 #[(iv a)] w fun h c => (∃ (d : Bool), h = (.bool d) ∧ qa1 (!d) (K (iv 0) c) (Cl 204 #[(iv b)] c fun i e => (∃ (f : Bool), i = (.bool f) ∧ qa1 (!f) (K (iv 0) e) (Cl 245 #[(iv (wrap .i64 (a + b)))] e fun j k => (∃ (g : Int), j = (iv g) ∧ K (iv g) k)))))

def qbA.ann : Ann := (.seq .l (.seq (.seq .l (.two (.seq .l .l) .l)) (.seq .l .l)))

theorem qbA.con {b c r : Int} {w : World} (d : r = M.qbA b c)  :
    Cl 224 #[(iv b), (iv c)] w (fun e f => e = (iv r) ∧ Ext w f) := by
 have H := wp.qbA.math b c
 refine begK mixed Tryz.f224 ann (vc b c) ?_
 unfold vc
 unfold wp.qbA at H
 obtain ⟨g, i, H⟩ := qaa H
 refine (qbd.con i ).mono ?_
 rintro _ q ⟨rfl, j⟩
 have a := qa6 (Ext.refl w) j
 refine ⟨g, rfl, ?_⟩
 apply brc H<;>intro h H
 ·cases d.trans H.symm
  exact ⟨rfl, a⟩
 obtain ⟨k, l, H⟩ := qaa H
 refine (qbd.con l ).mono ?_
 rintro _ s ⟨rfl, m⟩
 have a := qa6 a m
 refine ⟨k, rfl, ?_⟩
 apply brc H<;>intro h H
 ·cases d.trans H.symm
  exact ⟨rfl, a⟩
 obtain ⟨n, o, H⟩ := qaa H
 refine (qby.con o ).mono ?_
 rintro _ t ⟨rfl, p⟩
 have a := qa6 a p
 refine ⟨n, rfl, ?_⟩
 cases d.trans H.symm
 exact ⟨rfl, a⟩
def qan.vc (f : OA) (c m g : Nat) (h : Array Value) (w : World) (K : VK) : Prop :=
  qdh (σ := Int × Unit) (fun a b i => qa1 (decide (a.1 < ((c : Nat) : Int))) ((idx a.1 c f fun j => ldI b ((j.add ((a.1.toNat) * 1)).add 0) fun k => Cl g (#[(iv k)] ++ h) b fun l d => (∃ (e : Bool), l = (.bool e) ∧ qa1 e (K (iv a.1) d) (i ((wrap .i64 (a.1 + 1)), ()) d)))) (K (iv (-1)) b)) (0, ()) w

def qan.ann : Ann := (.seq .l (.seq (.seq .l (.one (.loop [(8, .int .i64)] (.seq .l (.seq (.two .l .l) (.seq (.one (.seq .l (.seq .l (.two (.seq .l .l) .l)))) .l)))))) (.seq .l .l)))

theorem qan.start {A0 : OA} {n0 c0 f1 : Nat} {cap1 : Array Value} {w : World} {K : Value → World → Prop} (h : qan.vc A0 n0 c0 f1 cap1 w K) : Cl 146 #[(sv A0 n0 c0), (.func (.func f1) #[] cap1)] w K :=
  qdM mixed (fn := Tryz.f146) (by kernel_rfl) (by kernel_rfl) (an := qan.ann) (args := [(sv A0 n0 c0), (.func (.func f1) #[] cap1)]) (Eq.mpr (by kernel_rfl) h)

theorem qan.con {b : List Int} {j : OA} {k l : Nat} {m : Array Value} {d : Int → Bool} {f : Int → Prop} {r : Int} {w : World} (t : M.qds b d f) (n : r = M.qan b d) (u : Row el3 w j b) (Q : b.length ≤ k) (v : ∀ (g : Int), f g → ∀ c : World, Ext w c → Cl l (#[(iv g)] ++ m) c (fun i x => i = (.bool (d g)) ∧ Ext c x)) :
    Cl 146 #[(sv j b.length k), (.func (.func l) #[] m)] w (fun i c => i = (iv r) ∧ Ext w c) := by
 have H := wp.qan.math b d f t
 have a := Ext.refl w
 refine qan.start ?_
 unfold vc
 unfold wp.qan at H
 obtain ⟨y, ⟨z, A⟩, o⟩ := H
 refine ⟨fun B C c => ∃ (e : Int), C = (e, ()) ∧ y B (e, ()) ∧ Ext w c, ⟨z, 0, rfl, A, a⟩, ?_⟩
 rintro D _ R ⟨e, rfl, p, a⟩
 have H := o D _ p
 clear o p
 try dsimp only at H ⊢
 apply brc H<;>intro h H
 ·obtain ⟨⟨q, s⟩, H⟩ := H
  obtain ⟨E, F, G⟩ := Row.at (u.ext a) q s
  refine ⟨q, s, E, F, _, (G 0 _ rfl), ?_⟩
  obtain ⟨I, H⟩ := H
  obtain ⟨J, K, H⟩ := qaa H
  refine (v (rd b e) I _ a).mono ?_
  rintro _ S ⟨rfl, L⟩
  rw [← K]
  have a := qa6 a L
  refine ⟨J, rfl, ?_⟩
  apply brc H<;>intro h H
  ·cases n.trans H.symm
   exact ⟨rfl, a⟩
  obtain ⟨N, O, P⟩ := H
  exact ⟨N, O, _, rfl, P, a⟩
 cases n.trans H.symm
 exact ⟨rfl, a⟩
def qak.vc (b : OA) (c d e : Nat) (f : Array Value) (w : World) (K : VK) : Prop :=
  Cl 146 #[(sv b c d), (.func (.func e) #[] f)] w fun g h => (∃ (a : Int), g = (iv a) ∧ K (.bool (decide (a ≥ 0))) h)

def qak.ann : Ann := (.seq .l (.seq .l .l))

theorem qak.start {A0 : OA} {n0 c0 f1 : Nat} {cap1 : Array Value} {w : World} {K : Value → World → Prop} (h : qak.vc A0 n0 c0 f1 cap1 w K) : Cl 90 #[(sv A0 n0 c0), (.func (.func f1) #[] cap1)] w K :=
  qdM mixed (fn := Tryz.f90) (by kernel_rfl) (by kernel_rfl) (an := qak.ann) (args := [(sv A0 n0 c0), (.func (.func f1) #[] cap1)]) (Eq.mpr (by kernel_rfl) h)

theorem qak.con {b : List Int} {h : OA} {i j : Nat} {k : Array Value} {e : Int → Bool} {f : Int → Prop} {r : Bool} {w : World} (l : M.qd8 b e f) (m : r = M.qak b e) (n : Row el3 w h b) (o : b.length ≤ i) (p : ∀ (c : Int), f c → ∀ a : World, Ext w a → Cl j (#[(iv c)] ++ k) a (fun g q => g = (.bool (e c)) ∧ Ext a q)) :
    Cl 90 #[(sv h b.length i), (.func (.func j) #[] k)] w (fun g a => g = (.bool r) ∧ Ext w a) := by
 have H := wp.qak.math b e f l
 have d := Ext.refl w
 refine qak.start ?_
 unfold vc
 unfold wp.qak at H
 obtain ⟨s, H⟩ := H
 obtain ⟨t, u, H⟩ := qaa H
 refine (qan.con s u (n.ext d) o (fun c  v a x => p c  v a (qa6 d x))).mono ?_
 rintro _ z ⟨rfl, y⟩
 have d := qa6 d y
 refine ⟨t, rfl, ?_⟩
 cases m.trans H.symm
 exact ⟨rfl, d⟩
def qc7.vc (b : Int) (w : World) (K : VK) : Prop :=
  Cl 178 #[(iv b)] w fun c d => (∃ (a : Bool), c = (.bool a) ∧ K (.bool (!a)) d)

def qc7.ann : Ann := (.seq .l (.seq .l .l))

theorem qc7.con {a : Int} {r : Bool} {w : World} (b : r = M.qc7 a)  :
    Cl 177 #[(iv a)] w (fun c d => c = (.bool r) ∧ Ext w d) := by
 have H := wp.qc7.math a
 refine begK mixed Tryz.f177 ann (vc a) ?_
 unfold vc
 unfold wp.qc7 at H
 obtain ⟨e, f, H⟩ := qaa H
 refine (qbJ.con f ).mono ?_
 rintro _ i ⟨rfl, g⟩
 have h := qa6 (Ext.refl w) g
 refine ⟨e, rfl, ?_⟩
 cases b.trans H.symm
 exact ⟨rfl, h⟩
def qbX.vc (b : OA) (c d : Nat) (w : World) (K : VK) : Prop :=
  Cl 90 #[(sv b c d), (.func (.func 177) #[] #[])] w fun e f => (∃ (a : Bool), e = (.bool a) ∧ K (.bool (!a)) f)

def qbX.ann : Ann := (.seq .l (.seq .l .l))

theorem qbX.con {a : List Int} {c : OA} {d : Nat} {r : Bool} {w : World} (f : M.qf2 a) (g : r = M.qbX a) (h : Row el3 w c a) (i : a.length ≤ d) :
    Cl 136 #[(sv c a.length d)] w (fun j e => j = (.bool r) ∧ Ext w e) := by
 have H := wp.qbX.math a f
 have b := Ext.refl w
 refine begK mixed Tryz.f136 ann (vc c a.length d) ?_
 unfold vc
 unfold wp.qbX at H
 obtain ⟨k, H⟩ := H
 obtain ⟨l, m, H⟩ := qaa H
 refine (qak.con k m (h.ext b) i (fun o p e q => qii (l1 := [_]) (l2 := []) (qc7.con rfl))).mono ?_
 rintro _ s ⟨rfl, n⟩
 have b := qa6 b n
 refine ⟨l, rfl, ?_⟩
 cases g.trans H.symm
 exact ⟨rfl, b⟩
def qd7.vc (a : Int) (w : World) (K : VK) : Prop :=
  K (iv (qdQ .i64 a 65535)) w

def qd7.ann : Ann := (.seq .l (.seq .l .l))

theorem qd7.con {a r : Int} {w : World} (b : r = M.qd7 a)  :
    Cl 228 #[(iv a)] w (fun c d => c = (iv r) ∧ Ext w d) := by
 have H := wp.qd7.math a
 have e := Ext.refl w
 refine begK mixed Tryz.f228 ann (vc a) ?_
 unfold vc
 unfold wp.qd7 at H
 cases b.trans H.symm
 exact ⟨rfl, e⟩
def qbs.vc (f g h : Int) (w : World) (K : VK) : Prop :=
  Cl 178 #[(iv f)] w fun i a => (∃ (b : Bool), i = (.bool b) ∧ qa1 (!b) (K (iv 0) a) (Cl 178 #[(iv g)] a fun j c => (∃ (d : Bool), j = (.bool d) ∧ qa1 (!d) (K (iv 0) c) (Cl 228 #[(iv h)] c fun k l => (∃ (e : Int), k = (iv e) ∧ K (iv e) l)))))

def qbs.ann : Ann := (.seq .l (.seq (.seq .l (.two (.seq .l .l) .l)) (.seq .l .l)))

theorem qbs.con {b c d r : Int} {w : World} (e : r = M.qbs b c d)  :
    Cl 207 #[(iv b), (iv c), (iv d)] w (fun f g => f = (iv r) ∧ Ext w g) := by
 have H := wp.qbs.math b c d
 refine begK mixed Tryz.f207 ann (vc b c d) ?_
 unfold vc
 unfold wp.qbs at H
 obtain ⟨i, j, H⟩ := qaa H
 refine (qbJ.con j ).mono ?_
 rintro _ s ⟨rfl, k⟩
 have a := qa6 (Ext.refl w) k
 refine ⟨i, rfl, ?_⟩
 apply brc H<;>intro h H
 ·cases e.trans H.symm
  exact ⟨rfl, a⟩
 obtain ⟨l, m, H⟩ := qaa H
 refine (qbJ.con m ).mono ?_
 rintro _ t ⟨rfl, n⟩
 have a := qa6 a n
 refine ⟨l, rfl, ?_⟩
 apply brc H<;>intro h H
 ·cases e.trans H.symm
  exact ⟨rfl, a⟩
 obtain ⟨o, p, H⟩ := qaa H
 refine (qd7.con p ).mono ?_
 rintro _ u ⟨rfl, q⟩
 have a := qa6 a q
 refine ⟨o, rfl, ?_⟩
 cases e.trans H.symm
 exact ⟨rfl, a⟩
def qc0.vc (a b : Int) (w : World) (K : VK) : Prop :=
  Cl 207 #[(iv a), (iv b), (iv (wrap .i64 (a + b)))] w fun d e => (∃ (c : Int), d = (iv c) ∧ K (iv c) e)

def qc0.ann : Ann := (.seq .l (.seq .l .l))

theorem qc0.con {a b r : Int} {w : World} (c : r = M.qc0 a b)  :
    Cl 173 #[(iv a), (iv b)] w (fun d e => d = (iv r) ∧ Ext w e) := by
 have H := wp.qc0.math a b
 refine begK mixed Tryz.f173 ann (vc a b) ?_
 unfold vc
 unfold wp.qc0 at H
 obtain ⟨f, g, H⟩ := qaa H
 refine (qbs.con g ).mono ?_
 rintro _ j ⟨rfl, h⟩
 have i := qa6 (Ext.refl w) h
 refine ⟨f, rfl, ?_⟩
 cases c.trans H.symm
 exact ⟨rfl, i⟩
def qdV.vc (b : Int) (w : World) (K : VK) : Prop :=
  Cl 99 #[(iv b), (iv 0), (iv 255)] w fun c d => (∃ (a : Bool), c = (.bool a) ∧ K (.bool a) d)

def qdV.ann : Ann := (.seq .l (.seq .l .l))

theorem qdV.con {a : Int} {r : Bool} {w : World} (b : r = M.qdV a)  :
    Cl 153 #[(iv a)] w (fun c d => c = (.bool r) ∧ Ext w d) := by
 have H := wp.qdV.math a
 refine begK mixed Tryz.f153 ann (vc a) ?_
 unfold vc
 unfold wp.qdV at H
 obtain ⟨e, f, H⟩ := qaa H
 refine (qaV.con f ).mono ?_
 rintro _ i ⟨rfl, g⟩
 have h := qa6 (Ext.refl w) g
 refine ⟨e, rfl, ?_⟩
 cases b.trans H.symm
 exact ⟨rfl, h⟩
def qbO.vc (b a : Int) (w : World) (K : VK) : Prop :=
  Cl 153 #[(iv b)] w fun g c => (∃ (d : Bool), g = (.bool d) ∧ qa1 d (Cl 99 #[(iv a), (iv 0), (iv 7)] c fun h e => (∃ (f : Bool), h = (.bool f) ∧ qa1 f (((0 : Int) ≤ a ∧ K (.bool ((qdQ .i64 (Int.fdiv b (2 ^ (min (a.toNat) (IntKind.bits .i64)))) 1) == 1)) e)) (K (.bool false) e))) (K (.bool false) c))

def qbO.ann : Ann := (.seq .l (.seq .l .l))

theorem qbO.con {b c : Int} {r : Bool} {w : World} (d : r = M.qbO b c)  :
    Cl 101 #[(iv b), (iv c)] w (fun e f => e = (.bool r) ∧ Ext w f) := by
 have H := wp.qbO.math b c
 refine begK mixed Tryz.f101 ann (vc b c) ?_
 unfold vc
 unfold wp.qbO at H
 obtain ⟨g, i, H⟩ := qaa H
 refine (qdV.con i ).mono ?_
 rintro _ o ⟨rfl, j⟩
 have a := qa6 (Ext.refl w) j
 refine ⟨g, rfl, ?_⟩
 apply brc H<;>intro h H
 ·obtain ⟨k, l, H⟩ := qaa H
  refine (qaV.con l ).mono ?_
  rintro _ p ⟨rfl, m⟩
  have a := qa6 a m
  refine ⟨k, rfl, ?_⟩
  apply brc H<;>intro h H
  ·obtain ⟨n, H⟩ := H
   refine ⟨n, ?_⟩
   cases d.trans H.symm
   exact ⟨rfl, a⟩
  cases d.trans H.symm
  exact ⟨rfl, a⟩
 cases d.trans H.symm
 exact ⟨rfl, a⟩
def qcG.vc (c d e f : Int) (w : World) (K : VK) : Prop :=
  newK w (.cells #[(iv c), (iv d), (iv e), (iv f)] 84) fun g a => ldI a (((bx g).add 0).add 0) fun h => Cl 99 #[(iv h), (iv 0), (iv 12)] a fun i j => (∃ (b : Bool), i = (.bool b) ∧ K (.bool b) j)

def qcG.ann : Ann := (.seq .l (.seq .l .l))

theorem qcG.con {b : D.Ins} {r : Bool} {w : World} (c : r = M.qcG b)  :
    Cl 124 #[(.agg (iC b))] w (fun d e => d = (.bool r) ∧ Ext w e) := by
 have H := wp.qcG.math b
 refine begK mixed Tryz.f124 ann (vc b.Op b.A b.B b.C) ?_
 unfold vc
 unfold wp.qcG at H
 refine qaL (fun l m n f g => ?_)
 refine ⟨_, (f.a 0), ?_⟩
 obtain ⟨h, i, H⟩ := qaa H
 refine (qaV.con i ).mono ?_
 rintro _ o ⟨rfl, j⟩
 have k := qa6 (qa6 (Ext.refl w) g) j
 refine ⟨h, rfl, ?_⟩
 cases c.trans H.symm
 exact ⟨rfl, k⟩
def qb8.vc (b : Int) (w : World) (K : VK) : Prop :=
  Cl 99 #[(iv b), (iv 0), (iv 3)] w fun c d => (∃ (a : Bool), c = (.bool a) ∧ K (.bool a) d)

def qb8.ann : Ann := (.seq .l (.seq .l .l))

theorem qb8.con {a : Int} {r : Bool} {w : World} (b : r = M.qb8 a)  :
    Cl 220 #[(iv a)] w (fun c d => c = (.bool r) ∧ Ext w d) := by
 have H := wp.qb8.math a
 refine begK mixed Tryz.f220 ann (vc a) ?_
 unfold vc
 unfold wp.qb8 at H
 obtain ⟨e, f, H⟩ := qaa H
 refine (qaV.con f ).mono ?_
 rintro _ i ⟨rfl, g⟩
 have h := qa6 (Ext.refl w) g
 refine ⟨e, rfl, ?_⟩
 cases b.trans H.symm
 exact ⟨rfl, h⟩
def qdO.vc (H I J L h : Int) (w : World) (K : VK) : Prop :=
  newK w (.cells #[(iv H), (iv I), (iv J), (iv L)] 84) fun a M => Cl 99 #[(iv h), (iv 0), (iv 32)] M fun N e => (∃ (t : Bool), N = (.bool t) ∧ qa1 (!t) (K (.bool false) e) (ldI e (((bx a).add 0).add 0) fun d => qfo (σ := Bool × Unit) (fun i => qa1 (d == 0) (i (true, ()) e) (qa1 (d == 12) (i (true, ()) e) (i ((d == 16), ()) e))) fun O b => qa1 O.1 (ldI b (((bx a).add 1).add 0) fun P => qa1 (P == 0) (ldI b (((bx a).add 2).add 0) fun Q => qa1 (Q == 0) (ldI b (((bx a).add 3).add 0) fun R => K (.bool (R == 0)) b) (K (.bool false) b)) (K (.bool false) b)) (qa1 (d == 1) (ldI b (((bx a).add 1).add 0) fun S => Cl 220 #[(iv S)] b fun T j => (∃ (u : Bool), T = (.bool u) ∧ qa1 u (ldI j (((bx a).add 2).add 0) fun U => Cl 204 #[(iv U)] j fun V k => (∃ (v : Bool), V = (.bool v) ∧ qa1 v (ldI k (((bx a).add 3).add 0) fun W => K (.bool (W == 0)) k) (K (.bool false) k))) (K (.bool false) j))) (qfo (σ := Bool × Unit) (fun g => qa1 (d == 2) (g (true, ()) b) (qa1 (d == 13) (g (true, ()) b) (qa1 (d == 14) (g (true, ()) b) (g ((d == 15), ()) b)))) fun X c => qa1 X.1 (ldI c (((bx a).add 1).add 0) fun Y => Cl 220 #[(iv Y)] c fun Z l => (∃ (x : Bool), Z = (.bool x) ∧ qa1 x (ldI l (((bx a).add 2).add 0) fun a0 => Cl 220 #[(iv a0)] l fun a1 m => (∃ (y : Bool), a1 = (.bool y) ∧ qa1 y (ldI m (((bx a).add 3).add 0) fun a2 => K (.bool (a2 == 0)) m) (K (.bool false) m))) (K (.bool false) l))) (qa1 (d == 8) (ldI c (((bx a).add 1).add 0) fun a3 => Cl 220 #[(iv a3)] c fun a4 f => (∃ (z : Bool), a4 = (.bool z) ∧ qa1 z (ldI f (((bx a).add 2).add 0) fun a5 => qa1 (a5 == 0) (ldI f (((bx a).add 3).add 0) fun a6 => K (.bool (a6 == 0)) f) (K (.bool false) f)) (K (.bool false) f))) (qa1 (d == 10) (ldI c (((bx a).add 1).add 0) fun a7 => Cl 220 #[(iv a7)] c fun a8 n => (∃ (A : Bool), a8 = (.bool A) ∧ qa1 A (ldI n (((bx a).add 2).add 0) fun a9 => Cl 99 #[(iv a9), (iv 0), (iv h)] n fun aa o => (∃ (B : Bool), aa = (.bool B) ∧ qa1 B (ldI o (((bx a).add 3).add 0) fun ab => K (.bool (ab == 0)) o) (K (.bool false) o))) (K (.bool false) n))) (qa1 (d == 11) (ldI c (((bx a).add 1).add 0) fun ac => qa1 (ac == 0) (ldI c (((bx a).add 2).add 0) fun ad => Cl 99 #[(iv ad), (iv 0), (iv h)] c fun ae p => (∃ (C : Bool), ae = (.bool C) ∧ qa1 C (ldI p (((bx a).add 3).add 0) fun af => K (.bool (af == 0)) p) (K (.bool false) p))) (K (.bool false) c)) (ldI c (((bx a).add 0).add 0) fun ag => Cl 99 #[(iv ag), (iv 3), (iv 9)] c fun ah q => (∃ (D : Bool), ah = (.bool D) ∧ qa1 D (ldI q (((bx a).add 1).add 0) fun ai => Cl 220 #[(iv ai)] q fun aj r => (∃ (E : Bool), aj = (.bool E) ∧ qa1 E (ldI r (((bx a).add 2).add 0) fun ak => Cl 220 #[(iv ak)] r fun al s => (∃ (F : Bool), al = (.bool F) ∧ qa1 F (ldI s (((bx a).add 3).add 0) fun am => Cl 220 #[(iv am)] s fun an ao => (∃ (G : Bool), an = (.bool G) ∧ K (.bool G) ao)) (K (.bool false) s))) (K (.bool false) r))) (K (.bool false) q))))))))))

def qdO.ann : Ann := (.seq .l (.seq (.seq .l (.two (.seq .l .l) .l)) (.seq (.seq .l (.one (.cut [(10, .bool)] (.seq .l (.two .l (.seq .l (.two .l .l)))) (.two (.seq .l .l) (.seq .l (.two (.seq .l .l) (.cut [(42, .bool)] (.seq .l (.two .l (.seq .l (.two .l (.seq .l (.two .l .l)))))) (.two (.seq .l .l) (.seq .l (.two (.seq .l .l) (.seq .l (.two (.seq .l .l) (.seq .l (.two (.seq .l .l) .l)))))))))))))) (.seq .l .l))))

theorem qdO.con {e : D.Ins} {g : Int} {r : Bool} {w : World} (d : r = M.qdO e g)  :
    Cl 198 #[(.agg (iC e)), (iv g)] w (fun E f => E = (.bool r) ∧ Ext w f) := by
 have H := wp.qdO.math e g
 refine begK mixed Tryz.f198 ann (vc e.Op e.A e.B e.C g) ?_
 unfold vc
 unfold wp.qdO at H
 refine qaL (fun l ad L1 b F => ?_)
 obtain ⟨G, I, H⟩ := qaa H
 refine (qaV.con I ).mono ?_
 rintro _ ae ⟨rfl, m⟩
 have b := b.ext m
 have c := qa6 (qa6 (Ext.refl w) F) m
 refine ⟨G, rfl, ?_⟩
 apply brc H<;>intro h H
 ·cases d.trans H.symm
  exact ⟨rfl, c⟩
 refine ⟨_, (b.a 0), ?_⟩
 obtain ⟨J, K, H⟩ := qd9 H
 refine ⟨fun i f => ∃ (j : Bool), i = (j, ()) ∧ J (j, ()) ∧ Ext w f ∧ Blk f l 84 (iC e), ?_, ?_⟩
 ·apply brc H<;>intro h H
  ·exact ⟨true, rfl, H, c, b⟩
  apply brc H<;>intro h H
  ·exact ⟨true, rfl, H, c, b⟩
  exact ⟨_, rfl, H, c, b⟩
 rintro _ af ⟨j, rfl, H, c, b⟩
 have H := K _ H
 try dsimp only at H ⊢
 apply brc H<;>intro h H
 ·refine ⟨_, (b.a 1), ?_⟩
  apply brc H<;>intro h H
  ·refine ⟨_, (b.a 2), ?_⟩
   apply brc H<;>intro h H
   ·refine ⟨_, (b.a 3), ?_⟩
    cases d.trans H.symm
    exact ⟨rfl, c⟩
   cases d.trans H.symm
   exact ⟨rfl, c⟩
  cases d.trans H.symm
  exact ⟨rfl, c⟩
 apply brc H<;>intro h H
 ·refine ⟨_, (b.a 1), ?_⟩
  obtain ⟨L, N, H⟩ := qaa H
  refine (qb8.con N ).mono ?_
  rintro _ ag ⟨rfl, n⟩
  have b := b.ext n
  have c := qa6 c n
  refine ⟨L, rfl, ?_⟩
  apply brc H<;>intro h H
  ·refine ⟨_, (b.a 2), ?_⟩
   obtain ⟨O, P, H⟩ := qaa H
   refine (qbd.con P ).mono ?_
   rintro _ ah ⟨rfl, o⟩
   have b := b.ext o
   have c := qa6 c o
   refine ⟨O, rfl, ?_⟩
   apply brc H<;>intro h H
   ·refine ⟨_, (b.a 3), ?_⟩
    cases d.trans H.symm
    exact ⟨rfl, c⟩
   cases d.trans H.symm
   exact ⟨rfl, c⟩
  cases d.trans H.symm
  exact ⟨rfl, c⟩
 obtain ⟨Q, R, H⟩ := qd9 H
 refine ⟨fun i f => ∃ (k : Bool), i = (k, ()) ∧ Q (k, ()) ∧ Ext w f ∧ Blk f l 84 (iC e), ?_, ?_⟩
 ·apply brc H<;>intro h H
  ·exact ⟨true, rfl, H, c, b⟩
  apply brc H<;>intro h H
  ·exact ⟨true, rfl, H, c, b⟩
  apply brc H<;>intro h H
  ·exact ⟨true, rfl, H, c, b⟩
  exact ⟨_, rfl, H, c, b⟩
 rintro _ ai ⟨k, rfl, H, c, b⟩
 have H := R _ H
 try dsimp only at H ⊢
 apply brc H<;>intro h H
 ·refine ⟨_, (b.a 1), ?_⟩
  obtain ⟨S, T, H⟩ := qaa H
  refine (qb8.con T ).mono ?_
  rintro _ aj ⟨rfl, p⟩
  have b := b.ext p
  have c := qa6 c p
  refine ⟨S, rfl, ?_⟩
  apply brc H<;>intro h H
  ·refine ⟨_, (b.a 2), ?_⟩
   obtain ⟨U, V, H⟩ := qaa H
   refine (qb8.con V ).mono ?_
   rintro _ ak ⟨rfl, q⟩
   have b := b.ext q
   have c := qa6 c q
   refine ⟨U, rfl, ?_⟩
   apply brc H<;>intro h H
   ·refine ⟨_, (b.a 3), ?_⟩
    cases d.trans H.symm
    exact ⟨rfl, c⟩
   cases d.trans H.symm
   exact ⟨rfl, c⟩
  cases d.trans H.symm
  exact ⟨rfl, c⟩
 apply brc H<;>intro h H
 ·refine ⟨_, (b.a 1), ?_⟩
  obtain ⟨W, X, H⟩ := qaa H
  refine (qb8.con X ).mono ?_
  rintro _ al ⟨rfl, s⟩
  have b := b.ext s
  have c := qa6 c s
  refine ⟨W, rfl, ?_⟩
  apply brc H<;>intro h H
  ·refine ⟨_, (b.a 2), ?_⟩
   apply brc H<;>intro h H
   ·refine ⟨_, (b.a 3), ?_⟩
    cases d.trans H.symm
    exact ⟨rfl, c⟩
   cases d.trans H.symm
   exact ⟨rfl, c⟩
  cases d.trans H.symm
  exact ⟨rfl, c⟩
 apply brc H<;>intro h H
 ·refine ⟨_, (b.a 1), ?_⟩
  obtain ⟨Y, Z, H⟩ := qaa H
  refine (qb8.con Z ).mono ?_
  rintro _ am ⟨rfl, t⟩
  have b := b.ext t
  have c := qa6 c t
  refine ⟨Y, rfl, ?_⟩
  apply brc H<;>intro h H
  ·refine ⟨_, (b.a 2), ?_⟩
   obtain ⟨a0, a1, H⟩ := qaa H
   refine (qaV.con a1 ).mono ?_
   rintro _ an ⟨rfl, u⟩
   have b := b.ext u
   have c := qa6 c u
   refine ⟨a0, rfl, ?_⟩
   apply brc H<;>intro h H
   ·refine ⟨_, (b.a 3), ?_⟩
    cases d.trans H.symm
    exact ⟨rfl, c⟩
   cases d.trans H.symm
   exact ⟨rfl, c⟩
  cases d.trans H.symm
  exact ⟨rfl, c⟩
 apply brc H<;>intro h H
 ·refine ⟨_, (b.a 1), ?_⟩
  apply brc H<;>intro h H
  ·refine ⟨_, (b.a 2), ?_⟩
   obtain ⟨a2, a3, H⟩ := qaa H
   refine (qaV.con a3 ).mono ?_
   rintro _ ao ⟨rfl, v⟩
   have b := b.ext v
   have c := qa6 c v
   refine ⟨a2, rfl, ?_⟩
   apply brc H<;>intro h H
   ·refine ⟨_, (b.a 3), ?_⟩
    cases d.trans H.symm
    exact ⟨rfl, c⟩
   cases d.trans H.symm
   exact ⟨rfl, c⟩
  cases d.trans H.symm
  exact ⟨rfl, c⟩
 refine ⟨_, (b.a 0), ?_⟩
 obtain ⟨a4, a5, H⟩ := qaa H
 refine (qaV.con a5 ).mono ?_
 rintro _ ap ⟨rfl, x⟩
 have b := b.ext x
 have c := qa6 c x
 refine ⟨a4, rfl, ?_⟩
 apply brc H<;>intro h H
 ·refine ⟨_, (b.a 1), ?_⟩
  obtain ⟨a6, a7, H⟩ := qaa H
  refine (qb8.con a7 ).mono ?_
  rintro _ aq ⟨rfl, y⟩
  have b := b.ext y
  have c := qa6 c y
  refine ⟨a6, rfl, ?_⟩
  apply brc H<;>intro h H
  ·refine ⟨_, (b.a 2), ?_⟩
   obtain ⟨a8, a9, H⟩ := qaa H
   refine (qb8.con a9 ).mono ?_
   rintro _ ar ⟨rfl, z⟩
   have b := b.ext z
   have c := qa6 c z
   refine ⟨a8, rfl, ?_⟩
   apply brc H<;>intro h H
   ·refine ⟨_, (b.a 3), ?_⟩
    obtain ⟨aa, ab, H⟩ := qaa H
    refine (qb8.con ab ).mono ?_
    rintro _ au ⟨rfl, ac⟩
    have c := qa6 c ac
    refine ⟨aa, rfl, ?_⟩
    cases d.trans H.symm
    exact ⟨rfl, c⟩
   cases d.trans H.symm
   exact ⟨rfl, c⟩
  cases d.trans H.symm
  exact ⟨rfl, c⟩
 cases d.trans H.symm
 exact ⟨rfl, c⟩
def qbh.vc (g : OA) (c n : Nat) (w : World) (K : VK) : Prop :=
  qdh (σ := Int × Unit) (fun a b h => qa1 (decide (a.1 < ((c : Nat) : Int))) ((idx a.1 c g fun d => ldI b ((d.add ((a.1.toNat) * 4)).add 0) fun i => ldI b ((d.add ((a.1.toNat) * 4)).add 1) fun j => ldI b ((d.add ((a.1.toNat) * 4)).add 2) fun k => ldI b ((d.add ((a.1.toNat) * 4)).add 3) fun l => Cl 198 #[(.agg #[(iv i), (iv j), (iv k), (iv l)]), (iv ((c : Nat) : Int))] b fun m e => (∃ (f : Bool), m = (.bool f) ∧ qa1 (!f) (K (.bool false) e) (h ((wrap .i64 (a.1 + 1)), ()) e)))) (K (.bool (decide (((c : Nat) : Int) ≤ 32))) b)) (0, ()) w

def qbh.ann : Ann := (.seq .l (.seq (.seq .l (.one (.loop [(3, .int .i64)] (.seq (.seq .l (.two .l .l)) (.seq (.one (.seq .l (.two (.seq .l .l) .l))) .l))))) (.seq .l .l)))

theorem qbh.con {b : List D.Ins} {d : OA} {e : Nat} {r : Bool} {w : World} (n : M.qek b) (i : r = M.qbh b) (o : Row el84 w d b) (I : b.length ≤ e) :
    Cl 160 #[(sv d b.length e)] w (fun p f => p = (.bool r) ∧ Ext w f) := by
 have H := wp.qbh.math b n
 have a := Ext.refl w
 refine begK mixed Tryz.f160 ann (vc d b.length e) ?_
 unfold vc
 unfold wp.qbh at H
 obtain ⟨q, ⟨s, t⟩, j⟩ := H
 refine ⟨fun u v f => ∃ (g : Int), v = (g, ()) ∧ q u (g, ()) ∧ Ext w f, ⟨s, 0, rfl, t, a⟩, ?_⟩
 rintro x _ J ⟨g, rfl, k, a⟩
 have H := j x _ k
 clear j k
 try dsimp only at H ⊢
 apply brc H<;>intro h H
 ·obtain ⟨⟨l, m⟩, H⟩ := H
  obtain ⟨y, z, c⟩ := Row.at (o.ext a) l m
  refine ⟨l, m, y, z, _, (c 0 _ rfl), _, (c 1 _ rfl), _, (c 2 _ rfl), _, (c 3 _ rfl), ?_⟩
  obtain ⟨A, B, H⟩ := qaa H
  refine (qdO.con B ).mono ?_
  rintro _ K ⟨rfl, C⟩
  have a := qa6 a C
  refine ⟨A, rfl, ?_⟩
  apply brc H<;>intro h H
  ·cases i.trans H.symm
   exact ⟨rfl, a⟩
  obtain ⟨E, F, G⟩ := H
  exact ⟨E, F, _, rfl, G, a⟩
 cases i.trans H.symm
 exact ⟨rfl, a⟩
def qbW.vc (a b : Int) (w : World) (K : VK) : Prop :=
  Cl 204 #[(iv a)] w fun h c => (∃ (d : Bool), h = (.bool d) ∧ qa1 (!d) (K (iv 0) c) (Cl 204 #[(iv b)] c fun i e => (∃ (f : Bool), i = (.bool f) ∧ qa1 (!f) (K (iv 0) e) (Cl 245 #[(iv (wrap .i64 (a - b)))] e fun j k => (∃ (g : Int), j = (iv g) ∧ K (iv g) k)))))

def qbW.ann : Ann := (.seq .l (.seq (.seq .l (.two (.seq .l .l) .l)) (.seq .l .l)))

theorem qbW.con {b c r : Int} {w : World} (d : r = M.qbW b c)  :
    Cl 255 #[(iv b), (iv c)] w (fun e f => e = (iv r) ∧ Ext w f) := by
 have H := wp.qbW.math b c
 refine begK mixed Tryz.f255 ann (vc b c) ?_
 unfold vc
 unfold wp.qbW at H
 obtain ⟨g, i, H⟩ := qaa H
 refine (qbd.con i ).mono ?_
 rintro _ q ⟨rfl, j⟩
 have a := qa6 (Ext.refl w) j
 refine ⟨g, rfl, ?_⟩
 apply brc H<;>intro h H
 ·cases d.trans H.symm
  exact ⟨rfl, a⟩
 obtain ⟨k, l, H⟩ := qaa H
 refine (qbd.con l ).mono ?_
 rintro _ s ⟨rfl, m⟩
 have a := qa6 a m
 refine ⟨k, rfl, ?_⟩
 apply brc H<;>intro h H
 ·cases d.trans H.symm
  exact ⟨rfl, a⟩
 obtain ⟨n, o, H⟩ := qaa H
 refine (qby.con o ).mono ?_
 rintro _ t ⟨rfl, p⟩
 have a := qa6 a p
 refine ⟨n, rfl, ?_⟩
 cases d.trans H.symm
 exact ⟨rfl, a⟩
def qc9.vc (a b : Int) (w : World) (K : VK) : Prop :=
  Cl 204 #[(iv a)] w fun h c => (∃ (d : Bool), h = (.bool d) ∧ qa1 (!d) (K (iv 0) c) (Cl 204 #[(iv b)] c fun i e => (∃ (f : Bool), i = (.bool f) ∧ qa1 (!f) (K (iv 0) e) (Cl 245 #[(iv (wrap .i64 (a * b)))] e fun j k => (∃ (g : Int), j = (iv g) ∧ K (iv g) k)))))

def qc9.ann : Ann := (.seq .l (.seq (.seq .l (.two (.seq .l .l) .l)) (.seq .l .l)))

theorem qc9.con {b c r : Int} {w : World} (d : r = M.qc9 b c)  :
    Cl 256 #[(iv b), (iv c)] w (fun e f => e = (iv r) ∧ Ext w f) := by
 have H := wp.qc9.math b c
 refine begK mixed Tryz.f256 ann (vc b c) ?_
 unfold vc
 unfold wp.qc9 at H
 obtain ⟨g, i, H⟩ := qaa H
 refine (qbd.con i ).mono ?_
 rintro _ q ⟨rfl, j⟩
 have a := qa6 (Ext.refl w) j
 refine ⟨g, rfl, ?_⟩
 apply brc H<;>intro h H
 ·cases d.trans H.symm
  exact ⟨rfl, a⟩
 obtain ⟨k, l, H⟩ := qaa H
 refine (qbd.con l ).mono ?_
 rintro _ s ⟨rfl, m⟩
 have a := qa6 a m
 refine ⟨k, rfl, ?_⟩
 apply brc H<;>intro h H
 ·cases d.trans H.symm
  exact ⟨rfl, a⟩
 obtain ⟨n, o, H⟩ := qaa H
 refine (qby.con o ).mono ?_
 rintro _ t ⟨rfl, p⟩
 have a := qa6 a p
 refine ⟨n, rfl, ?_⟩
 cases d.trans H.symm
 exact ⟨rfl, a⟩
def qbp.vc (b c : Int) (w : World) (K : VK) : Prop :=
  Cl 204 #[(iv b)] w fun g d => (∃ (e : Bool), g = (.bool e) ∧ qa1 e (Cl 204 #[(iv c)] d fun h a => (∃ (f : Bool), h = (.bool f) ∧ qa1 f (qa1 (decide (b < c)) (K (iv 1) a) (K (iv 0) a)) (K (iv 0) a))) (K (iv 0) d))

def qbp.ann : Ann := (.seq .l (.seq (.seq .l (.two (.seq .l .l) .l)) (.seq .l .l)))

theorem qbp.con {b c r : Int} {w : World} (d : r = M.qbp b c)  :
    Cl 257 #[(iv b), (iv c)] w (fun e f => e = (iv r) ∧ Ext w f) := by
 have H := wp.qbp.math b c
 refine begK mixed Tryz.f257 ann (vc b c) ?_
 unfold vc
 unfold wp.qbp at H
 obtain ⟨g, i, H⟩ := qaa H
 refine (qbd.con i ).mono ?_
 rintro _ n ⟨rfl, j⟩
 have a := qa6 (Ext.refl w) j
 refine ⟨g, rfl, ?_⟩
 apply brc H<;>intro h H
 ·obtain ⟨k, l, H⟩ := qaa H
  refine (qbd.con l ).mono ?_
  rintro _ o ⟨rfl, m⟩
  have a := qa6 a m
  refine ⟨k, rfl, ?_⟩
  apply brc H<;>intro h H
  ·apply brc H<;>intro h H
   ·cases d.trans H.symm
    exact ⟨rfl, a⟩
   cases d.trans H.symm
   exact ⟨rfl, a⟩
  cases d.trans H.symm
  exact ⟨rfl, a⟩
 cases d.trans H.symm
 exact ⟨rfl, a⟩
def qb7.vc (Y Z a0 a1 x1 : Int) (e : OA) (f c2 : Nat) (w : World) (K : VK) : Prop :=
  newK w (.cells #[(iv Y), (iv Z), (iv a0), (iv a1)] 84) fun b a2 => Run Tryz.prog (Instr.buildSlice 24 0 #[]) a2 fun a3 a4 => ∃ (p : OA) (q r : Nat), a3 = .slice p q r ∧ Run Tryz.prog (Builtin.append_ #[24, 24] 24 #[(sv p q r), (sv e f c2)]) a4 fun a5 a => ∃ (c : OA) (d g : Nat), a5 = .slice c d g ∧ ldI a (((bx b).add 0).add 0) fun h => qa1 (h == 1) (ldI a (((bx b).add 1).add 0) fun s => ldI a (((bx b).add 2).add 0) fun a6 => (idx s d c fun a7 => qa5 (a7.add ((s.toNat) * 1)) [(iv a6)] 0 a fun a8 => K (sv c d g) a8)) (qa1 (h == 2) ((∃ n : Nat → Prop, ldIM n a ((bx b).add 1) 0 fun t => ldIM n a ((bx b).add 2) 0 fun u => (idx u f e fun a9 => ldIM n a (a9.add ((u.toNat) * 1)) 0 fun aa => (idx t d c fun ab => qa5 (ab.add ((t.toNat) * 1)) [(iv aa)] 0 a.drew fun ac => K (sv c d g) ac)))) (qa1 (h == 3) ((∃ i : Nat → Prop, ldIM i a ((bx b).add 1) 0 fun v => ldIM i a ((bx b).add 2) 0 fun x => (idx x f e fun ad => ldIM i a (ad.add ((x.toNat) * 1)) 0 fun ae => ldIM i a ((bx b).add 3) 0 fun y => (idx y f e fun af => ldIM i a (af.add ((y.toNat) * 1)) 0 fun ag => Cl 224 #[(iv ae), (iv ag)] a.drew fun ah z => (∃ (A : Int), ah = (iv A) ∧ qab i a z ∧ (idx v d c fun ai => qa5 (ai.add ((v.toNat) * 1)) [(iv A)] 0 z fun aj => K (sv c d g) aj)))))) (qa1 (h == 4) ((∃ j : Nat → Prop, ldIM j a ((bx b).add 1) 0 fun B => ldIM j a ((bx b).add 2) 0 fun C => (idx C f e fun ak => ldIM j a (ak.add ((C.toNat) * 1)) 0 fun al => ldIM j a ((bx b).add 3) 0 fun D => (idx D f e fun am => ldIM j a (am.add ((D.toNat) * 1)) 0 fun an => Cl 255 #[(iv al), (iv an)] a.drew fun ao E => (∃ (F : Int), ao = (iv F) ∧ qab j a E ∧ (idx B d c fun ap => qa5 (ap.add ((B.toNat) * 1)) [(iv F)] 0 E fun aq => K (sv c d g) aq)))))) (qa1 (h == 5) ((∃ k : Nat → Prop, ldIM k a ((bx b).add 1) 0 fun G => ldIM k a ((bx b).add 2) 0 fun H => (idx H f e fun ar => ldIM k a (ar.add ((H.toNat) * 1)) 0 fun au => ldIM k a ((bx b).add 3) 0 fun I => (idx I f e fun av => ldIM k a (av.add ((I.toNat) * 1)) 0 fun aw => Cl 256 #[(iv au), (iv aw)] a.drew fun ax J => (∃ (L : Int), ax = (iv L) ∧ qab k a J ∧ (idx G d c fun ay => qa5 (ay.add ((G.toNat) * 1)) [(iv L)] 0 J fun az => K (sv c d g) az)))))) (qa1 (h == 6) ((∃ m : Nat → Prop, ldIM m a ((bx b).add 1) 0 fun M => ldIM m a ((bx b).add 2) 0 fun N => (idx N f e fun aA => ldIM m a (aA.add ((N.toNat) * 1)) 0 fun aB => ldIM m a ((bx b).add 3) 0 fun O => (idx O f e fun aC => ldIM m a (aC.add ((O.toNat) * 1)) 0 fun aD => (idx M d c fun aE => qa5 (aE.add ((M.toNat) * 1)) [(iv (qgY .i64 aB aD))] 0 a.drew fun aF => K (sv c d g) aF))))) (qa1 (h == 7) ((∃ l : Nat → Prop, ldIM l a ((bx b).add 1) 0 fun P => ldIM l a ((bx b).add 2) 0 fun Q => (idx Q f e fun aG => ldIM l a (aG.add ((Q.toNat) * 1)) 0 fun aH => ldIM l a ((bx b).add 3) 0 fun R => (idx R f e fun aI => ldIM l a (aI.add ((R.toNat) * 1)) 0 fun aJ => Cl 257 #[(iv aH), (iv aJ)] a.drew fun aK S => (∃ (T : Int), aK = (iv T) ∧ qab l a S ∧ (idx P d c fun aL => qa5 (aL.add ((P.toNat) * 1)) [(iv T)] 0 S fun aM => K (sv c d g) aM)))))) (qa1 (h == 8) (ldI a (((bx b).add 1).add 0) fun U => (idx U d c fun aN => qa5 (aN.add ((U.toNat) * 1)) [(iv x1)] 0 a fun aO => K (sv c d g) aO)) (qa1 (h == 9) (ldI a (((bx b).add 3).add 0) fun V => (idx V f e fun aP => ldI a ((aP.add ((V.toNat) * 1)).add 0) fun aQ => qa1 (aQ != 0) ((∃ o : Nat → Prop, ldIM o a ((bx b).add 1) 0 fun W => ldIM o a ((bx b).add 2) 0 fun X => (idx X f e fun aR => ldIM o a (aR.add ((X.toNat) * 1)) 0 fun aS => (idx W d c fun aT => qa5 (aT.add ((W.toNat) * 1)) [(iv aS)] 0 a.drew fun aU => K (sv c d g) aU)))) (K (sv c d g) a))) (K (sv c d g) a)))))))))

def qb7.ann : Ann := (.seq .l (.seq .l (.seq (.seq .l (.one (.seq .l (.two .l (.seq .l (.two .l (.seq .l (.two .l (.seq .l (.two .l (.seq .l (.two .l (.seq .l (.two .l (.seq .l (.two .l (.seq .l (.two .l (.seq .l (.two (.seq .l (.two .l .l)) .l)))))))))))))))))))) (.seq .l .l))))

theorem qb7.con {g : D.Ins} {n : Int} {i r : List Int} {q : OA} {s : Nat} {w : World} (hp : M.qg3 g n i) (j : r = M.qb7 g n i) (f : Row el3 w q i) (bW : i.length ≤ s) :
    Cl 244 #[(.agg (iC g)), (iv n), (sv q i.length s)] w (fun v_ w_ => ∃ (a0 : OA) (a1 : Nat), v_ = (sv a0 r.length a1) ∧ Own el3 w_ w.heap.size a0 a1 r ∧ Ext w w_) := by
 have H := wp.qb7.math g n i hp
 refine begK mixed Tryz.f244 ann (vc g.Op g.A g.B g.C n q i.length s) ?_
 unfold vc
 unfold wp.qb7 at H
 refine qaL (fun bX bY L2 d aJ => ?_)
 have b := qa6 (Ext.refl w) aJ
 refine qaz el3 ([] : List Int) (fun _ => by kernel_rfl) rfl (fun bZ c0 o a2 => ?_)
 have aK := o.qap d.lt
 have c := o.mono b.size
 have b := qa6 b a2
 obtain ⟨aL, H⟩ := H
 refine appO qgO c (f.ext b) b.size aL (fun k l p o a3 => ?_)
 have d := (d.ext a2).app a3 aK
 have b := eapp b a3 c
 have c := o
 refine ⟨_, (d.a 0), ?_⟩
 apply brc H<;>intro h H
 ·refine ⟨_, (d.a 1), _, (d.a 2), ?_⟩
  obtain ⟨⟨t, u⟩, H⟩ := H
  obtain ⟨aM, a4, c1⟩ := Row.at c.row t u
  refine ⟨t, u, aM, a4, ?_⟩
  refine Own.stA c a4 t u 0 g.B (fun c3 c aN aO => ?_)
  have b := echg b aN aO
  cases j.trans H.symm
  exact ⟨k, l, (by first | rfl | (simp; done) | (simp; omega) | (simp [*]; done)), (by first | exact c | (simp only [bC, wC, List.length_set]; exact c)), b⟩
 apply brc H<;>intro h H
 ·refine ⟨(fun _ => False), _, noM (d.a 1), _, noM (d.a 2), ?_⟩
  obtain ⟨⟨a5, a6⟩, H⟩ := H
  obtain ⟨aP, aQ, aR⟩ := Row.at (f.ext b) a5 a6
  refine ⟨a5, a6, aP, aQ, _, ⟨(fun e => e), (aR 0 _ rfl)⟩, ?_⟩
  obtain ⟨⟨v, x⟩, H⟩ := H
  obtain ⟨aS, a7, c4⟩ := Row.at c.row v x
  refine ⟨v, x, aS, a7, ?_⟩
  have c := c.ext (Ext.drew _)
  have b := qa6 b (Ext.drew _)
  refine Own.stA c a7 v x 0 (rd i g.B) (fun c5 c aT aU => ?_)
  have b := echg b aT aU
  cases j.trans H.symm
  exact ⟨k, l, (by first | rfl | (simp; done) | (simp; omega) | (simp [*]; done)), (by first | exact c | (simp only [bC, wC, List.length_set]; exact c)), b⟩
 apply brc H<;>intro h H
 ·refine ⟨(fun _ => False), ?_⟩
  have hBz := b
  have m := c
  refine ⟨_, noM (d.a 1), _, noM (d.a 2), ?_⟩
  obtain ⟨⟨a8, a9⟩, H⟩ := H
  obtain ⟨aV, aW, aX⟩ := Row.at (f.ext b) a8 a9
  refine ⟨a8, a9, aV, aW, _, ⟨(fun e => e), (aX 0 _ rfl)⟩, _, noM (d.a 3), ?_⟩
  obtain ⟨⟨aa, ab⟩, H⟩ := H
  obtain ⟨aY, aZ, b0⟩ := Row.at (f.ext b) aa ab
  refine ⟨aa, ab, aY, aZ, _, ⟨(fun e => e), (b0 0 _ rfl)⟩, ?_⟩
  have c := c.ext (Ext.drew _)
  have b := qa6 b (Ext.drew _)
  have y := (Chg.refl (fun _ => False) p).then (Ext.drew _)
  obtain ⟨ac, b1, H⟩ := qaa H
  refine (qbA.con b1 ).mono ?_
  rintro _ c6 ⟨rfl, z⟩
  have c := c.ext z
  have b := qa6 b z
  have y := y.then z
  refine ⟨ac, rfl, qaw y, ?_⟩
  obtain ⟨⟨E, F⟩, H⟩ := H
  obtain ⟨b2, ad, c7⟩ := Row.at m.row E F
  refine ⟨E, F, b2, ad, ?_⟩
  refine Own.stA c ad E F 0 ac (fun c8 c b3 b4 => ?_)
  have b := echg b b3 b4
  cases j.trans H.symm
  exact ⟨k, l, (by first | rfl | (simp; done) | (simp; omega) | (simp [*]; done)), (by first | exact c | (simp only [bC, wC, List.length_set]; exact c)), b⟩
 apply brc H<;>intro h H
 ·refine ⟨(fun _ => False), ?_⟩
  have hBz := b
  have m := c
  refine ⟨_, noM (d.a 1), _, noM (d.a 2), ?_⟩
  obtain ⟨⟨ae, af⟩, H⟩ := H
  obtain ⟨b5, b6, b7⟩ := Row.at (f.ext b) ae af
  refine ⟨ae, af, b5, b6, _, ⟨(fun e => e), (b7 0 _ rfl)⟩, _, noM (d.a 3), ?_⟩
  obtain ⟨⟨ag, ah⟩, H⟩ := H
  obtain ⟨b8, b9, ba⟩ := Row.at (f.ext b) ag ah
  refine ⟨ag, ah, b8, b9, _, ⟨(fun e => e), (ba 0 _ rfl)⟩, ?_⟩
  have c := c.ext (Ext.drew _)
  have b := qa6 b (Ext.drew _)
  have G := (Chg.refl (fun _ => False) p).then (Ext.drew _)
  obtain ⟨ai, bb, H⟩ := qaa H
  refine (qbW.con bb ).mono ?_
  rintro _ c9 ⟨rfl, I⟩
  have c := c.ext I
  have b := qa6 b I
  have G := G.then I
  refine ⟨ai, rfl, qaw G, ?_⟩
  obtain ⟨⟨J, K⟩, H⟩ := H
  obtain ⟨bc, aj, ca⟩ := Row.at m.row J K
  refine ⟨J, K, bc, aj, ?_⟩
  refine Own.stA c aj J K 0 ai (fun cb c bd be => ?_)
  have b := echg b bd be
  cases j.trans H.symm
  exact ⟨k, l, (by first | rfl | (simp; done) | (simp; omega) | (simp [*]; done)), (by first | exact c | (simp only [bC, wC, List.length_set]; exact c)), b⟩
 apply brc H<;>intro h H
 ·refine ⟨(fun _ => False), ?_⟩
  have hBz := b
  have m := c
  refine ⟨_, noM (d.a 1), _, noM (d.a 2), ?_⟩
  obtain ⟨⟨ak, al⟩, H⟩ := H
  obtain ⟨bf, bg, bh⟩ := Row.at (f.ext b) ak al
  refine ⟨ak, al, bf, bg, _, ⟨(fun e => e), (bh 0 _ rfl)⟩, _, noM (d.a 3), ?_⟩
  obtain ⟨⟨am, an⟩, H⟩ := H
  obtain ⟨bi, bj, bk⟩ := Row.at (f.ext b) am an
  refine ⟨am, an, bi, bj, _, ⟨(fun e => e), (bk 0 _ rfl)⟩, ?_⟩
  have c := c.ext (Ext.drew _)
  have b := qa6 b (Ext.drew _)
  have L := (Chg.refl (fun _ => False) p).then (Ext.drew _)
  obtain ⟨ao, bl, H⟩ := qaa H
  refine (qc9.con bl ).mono ?_
  rintro _ cc ⟨rfl, N⟩
  have c := c.ext N
  have b := qa6 b N
  have L := L.then N
  refine ⟨ao, rfl, qaw L, ?_⟩
  obtain ⟨⟨O, P⟩, H⟩ := H
  obtain ⟨bm, ap, cd⟩ := Row.at m.row O P
  refine ⟨O, P, bm, ap, ?_⟩
  refine Own.stA c ap O P 0 ao (fun ce c bn bo => ?_)
  have b := echg b bn bo
  cases j.trans H.symm
  exact ⟨k, l, (by first | rfl | (simp; done) | (simp; omega) | (simp [*]; done)), (by first | exact c | (simp only [bC, wC, List.length_set]; exact c)), b⟩
 apply brc H<;>intro h H
 ·refine ⟨(fun _ => False), _, noM (d.a 1), _, noM (d.a 2), ?_⟩
  obtain ⟨⟨aq, ar⟩, H⟩ := H
  obtain ⟨bp, bq, br⟩ := Row.at (f.ext b) aq ar
  refine ⟨aq, ar, bp, bq, _, ⟨(fun e => e), (br 0 _ rfl)⟩, _, noM (d.a 3), ?_⟩
  obtain ⟨⟨au, av⟩, H⟩ := H
  obtain ⟨bs, bt, bu⟩ := Row.at (f.ext b) au av
  refine ⟨au, av, bs, bt, _, ⟨(fun e => e), (bu 0 _ rfl)⟩, ?_⟩
  obtain ⟨⟨Q, R⟩, H⟩ := H
  obtain ⟨bv, aw, cf⟩ := Row.at c.row Q R
  refine ⟨Q, R, bv, aw, ?_⟩
  have c := c.ext (Ext.drew _)
  have b := qa6 b (Ext.drew _)
  refine Own.stA c aw Q R 0 (qgY .i64 (rd i g.B) (rd i g.C)) (fun cg c bw bx => ?_)
  have b := echg b bw bx
  cases j.trans H.symm
  exact ⟨k, l, (by first | rfl | (simp; done) | (simp; omega) | (simp [*]; done)), (by first | exact c | (simp only [bC, wC, List.length_set]; exact c)), b⟩
 apply brc H<;>intro h H
 ·refine ⟨(fun _ => False), ?_⟩
  have hBz := b
  have m := c
  refine ⟨_, noM (d.a 1), _, noM (d.a 2), ?_⟩
  obtain ⟨⟨ax, ay⟩, H⟩ := H
  obtain ⟨bz, bA, bB⟩ := Row.at (f.ext b) ax ay
  refine ⟨ax, ay, bz, bA, _, ⟨(fun e => e), (bB 0 _ rfl)⟩, _, noM (d.a 3), ?_⟩
  obtain ⟨⟨az, aA⟩, H⟩ := H
  obtain ⟨bD, bE, bF⟩ := Row.at (f.ext b) az aA
  refine ⟨az, aA, bD, bE, _, ⟨(fun e => e), (bF 0 _ rfl)⟩, ?_⟩
  have c := c.ext (Ext.drew _)
  have b := qa6 b (Ext.drew _)
  have S := (Chg.refl (fun _ => False) p).then (Ext.drew _)
  obtain ⟨aB, bG, H⟩ := qaa H
  refine (qbp.con bG ).mono ?_
  rintro _ ch ⟨rfl, T⟩
  have c := c.ext T
  have b := qa6 b T
  have S := S.then T
  refine ⟨aB, rfl, qaw S, ?_⟩
  obtain ⟨⟨U, V⟩, H⟩ := H
  obtain ⟨bH, aC, ci⟩ := Row.at m.row U V
  refine ⟨U, V, bH, aC, ?_⟩
  refine Own.stA c aC U V 0 aB (fun cj c bI bJ => ?_)
  have b := echg b bI bJ
  cases j.trans H.symm
  exact ⟨k, l, (by first | rfl | (simp; done) | (simp; omega) | (simp [*]; done)), (by first | exact c | (simp only [bC, wC, List.length_set]; exact c)), b⟩
 apply brc H<;>intro h H
 ·refine ⟨_, (d.a 1), ?_⟩
  obtain ⟨⟨W, X⟩, H⟩ := H
  obtain ⟨bK, aD, ck⟩ := Row.at c.row W X
  refine ⟨W, X, bK, aD, ?_⟩
  refine Own.stA c aD W X 0 n (fun cl c bL bM => ?_)
  have b := echg b bL bM
  cases j.trans H.symm
  exact ⟨k, l, (by first | rfl | (simp; done) | (simp; omega) | (simp [*]; done)), (by first | exact c | (simp only [bC, wC, List.length_set]; exact c)), b⟩
 apply brc H<;>intro h H
 ·refine ⟨_, (d.a 3), ?_⟩
  obtain ⟨⟨aE, aF⟩, H⟩ := H
  obtain ⟨bN, bO, bP⟩ := Row.at (f.ext b) aE aF
  refine ⟨aE, aF, bN, bO, _, (bP 0 _ rfl), ?_⟩
  apply brc H<;>intro h H
  ·refine ⟨(fun _ => False), _, noM (d.a 1), _, noM (d.a 2), ?_⟩
   obtain ⟨⟨aG, aH⟩, H⟩ := H
   obtain ⟨bQ, bR, bS⟩ := Row.at (f.ext b) aG aH
   refine ⟨aG, aH, bQ, bR, _, ⟨(fun e => e), (bS 0 _ rfl)⟩, ?_⟩
   obtain ⟨⟨Y, Z⟩, H⟩ := H
   obtain ⟨bT, aI, cm⟩ := Row.at c.row Y Z
   refine ⟨Y, Z, bT, aI, ?_⟩
   have c := c.ext (Ext.drew _)
   have b := qa6 b (Ext.drew _)
   refine Own.stA c aI Y Z 0 (rd i g.B) (fun cn c bU bV => ?_)
   have b := echg b bU bV
   cases j.trans H.symm
   exact ⟨k, l, (by first | rfl | (simp; done) | (simp; omega) | (simp [*]; done)), (by first | exact c | (simp only [bC, wC, List.length_set]; exact c)), b⟩
  cases j.trans H.symm
  exact ⟨k, l, rfl, c, b⟩
 cases j.trans H.symm
 exact ⟨k, l, rfl, c, b⟩
def qaq.vc (a : OA) (h i : Nat) (w : World) (K : VK) : Prop :=
  qa1 (Option.isNone a) (K (sv none 0 0) w) (Run Tryz.prog (Instr.buildSlice 24 0 #[]) w fun j k => ∃ (b : OA) (c d : Nat), j = .slice b c d ∧ Run Tryz.prog (Builtin.append_ #[24, 24] 24 #[(sv b c d), (sv a h i)]) k fun l m => ∃ (e : OA) (f g : Nat), l = .slice e f g ∧ K (sv e f g) m)

def qaq.ann : Ann := (.seq .l (.seq (.seq .l (.two (.seq .l .l) .l)) (.seq .l .l)))

theorem qaq.con {b r : List Int} {c : OA} {e : Nat} {w : World} (n : M.qaW b) (g : r = M.qaq b) (i : Row el3 w c b) (z : b.length ≤ e) :
    Cl 128 #[(sv c b.length e)] w (fun o j => ∃ (k : OA) (l : Nat), o = (sv k r.length l) ∧ Own el3 j w.heap.size k l r ∧ Ext w j) := by
 have H := wp.qaq.math b n
 have a := Ext.refl w
 refine begK mixed Tryz.f128 ann (vc c b.length e) ?_
 unfold vc
 unfold wp.qaq at H
 obtain ⟨p, m⟩ : ∃ q, q = Option.isNone c := ⟨_, rfl⟩
 have H := H p (fun s => Row.isNone (i.ext a) (m.symm.trans s))
 rw [← m]
 apply brc H<;>intro h H
 ·cases g.trans H.symm
  exact ⟨none, 0, rfl, Own.nil, a⟩
 refine qaz el3 ([] : List Int) (fun _ => by kernel_rfl) rfl (fun A B f t => ?_)
 have d := f.mono a.size
 have a := qa6 a t
 obtain ⟨u, H⟩ := H
 refine appO qgO d (i.ext a) a.size u (fun v x C f y => ?_)
 have a := eapp a y d
 have d := f
 cases g.trans H.symm
 exact ⟨v, x, rfl, d, a⟩
def qdH.vc (a : Int) (w : World) (K : VK) : Prop :=
  Cl 78 #[(iv a), (iv 0), (iv 16)] w fun h b => (∃ (c : Bool), h = (.bool c) ∧ qa1 (!c) (K (.string (⟨#[]⟩)) b) (Run Tryz.prog (Instr.buildSlice 187 17 #[(0, (.string (⟨#[45, 45, 45]⟩))), (1, (.string (⟨#[82, 87, 45]⟩))), (2, (.string (⟨#[82, 82, 45]⟩))), (3, (.string (⟨#[82, 82, 82]⟩))), (4, (.string (⟨#[82, 82, 82]⟩))), (5, (.string (⟨#[82, 82, 82]⟩))), (6, (.string (⟨#[82, 82, 82]⟩))), (7, (.string (⟨#[82, 82, 82]⟩))), (8, (.string (⟨#[82, 45, 45]⟩))), (9, (.string (⟨#[82, 82, 82]⟩))), (10, (.string (⟨#[82, 84, 45]⟩))), (11, (.string (⟨#[45, 84, 45]⟩))), (12, (.string (⟨#[45, 45, 45]⟩))), (13, (.string (⟨#[82, 82, 45]⟩))), (14, (.string (⟨#[82, 82, 45]⟩))), (15, (.string (⟨#[82, 82, 45]⟩))), (16, (.string (⟨#[45, 45, 45]⟩)))]) b fun i d => ∃ (e : OA) (f j : Nat), i = .slice e f j ∧ (idx a f e fun k => ∃ (g : ByteArray), d.cell? ((k.add ((a.toNat) * 1)).add 0) = some (.string g) ∧ K (.string g) d)))

def qdH.ann : Ann := (.seq .l (.seq (.seq .l (.two (.seq .l .l) .l)) (.seq .l .l)))

theorem qdH.con {b : Int} {r : ByteArray} {w : World} (d : r = M.qdH b)  :
    Cl 175 #[(iv b)] w (fun f g => f = (.string r) ∧ Ext w g) := by
 have H := wp.qdH.math b
 refine begK mixed Tryz.f175 ann (vc b) ?_
 unfold vc
 unfold wp.qdH at H
 obtain ⟨i, j, H⟩ := qaa H
 refine (qar.con j ).mono ?_
 rintro _ s ⟨rfl, k⟩
 have a := qa6 (Ext.refl w) k
 refine ⟨i, rfl, ?_⟩
 apply brc H<;>intro h H
 ·cases d.trans H.symm
  exact ⟨rfl, a⟩
 refine qaz el9 ([⟨#[45, 45, 45]⟩, ⟨#[82, 87, 45]⟩, ⟨#[82, 82, 45]⟩, ⟨#[82, 82, 82]⟩, ⟨#[82, 82, 82]⟩, ⟨#[82, 82, 82]⟩, ⟨#[82, 82, 82]⟩, ⟨#[82, 82, 82]⟩, ⟨#[82, 45, 45]⟩, ⟨#[82, 82, 82]⟩, ⟨#[82, 84, 45]⟩, ⟨#[45, 84, 45]⟩, ⟨#[45, 45, 45]⟩, ⟨#[82, 82, 45]⟩, ⟨#[82, 82, 45]⟩, ⟨#[82, 82, 45]⟩, ⟨#[45, 45, 45]⟩] : List ByteArray) (fun _ => by kernel_rfl) rfl (fun t u l m => ?_)
 have n := l.mono a.size
 have a := qa6 a m
 obtain ⟨⟨e, c⟩, H⟩ := H
 obtain ⟨o, p, q⟩ := Row.at n.row e c
 refine ⟨e, (by first | exact c | omega | (simp at c ⊢; omega)), o, p, _, (q 0 _ rfl), ?_⟩
 cases d.trans H.symm
 exact ⟨rfl, a⟩
def qe8.vc (b : Int) (w : World) (K : VK) : Prop :=
  Cl 78 #[(iv b), (iv 0), (iv 3)] w fun c d => (∃ (a : Bool), c = (.bool a) ∧ K (.bool a) d)

def qe8.ann : Ann := (.seq .l (.seq .l .l))

theorem qe8.con {a : Int} {r : Bool} {w : World} (b : r = M.qe8 a)  :
    Cl 208 #[(iv a)] w (fun c d => c = (.bool r) ∧ Ext w d) := by
 have H := wp.qe8.math a
 refine begK mixed Tryz.f208 ann (vc a) ?_
 unfold vc
 unfold wp.qe8 at H
 obtain ⟨e, f, H⟩ := qaa H
 refine (qar.con f ).mono ?_
 rintro _ i ⟨rfl, g⟩
 have h := qa6 (Ext.refl w) g
 refine ⟨e, rfl, ?_⟩
 cases b.trans H.symm
 exact ⟨rfl, h⟩
def qaJ.vc (b a f : Int) (w : World) (K : VK) : Prop :=
  qa1 (b == 82) (Cl 208 #[(iv a)] w fun g h => (∃ (c : Bool), g = (.bool c) ∧ K (.bool c) h)) (qa1 (b == 87) (Cl 178 #[(iv a)] w fun i j => (∃ (d : Bool), i = (.bool d) ∧ K (.bool d) j)) (qa1 (b == 84) (Cl 78 #[(iv a), (iv 0), (iv f)] w fun k l => (∃ (e : Bool), k = (.bool e) ∧ K (.bool e) l)) (K (.bool (a == 0)) w)))

def qaJ.ann : Ann := (.seq .l (.seq (.seq .l (.one (.seq .l (.two (.seq .l .l) (.seq .l (.two (.seq .l .l) (.seq .l (.two (.seq .l .l) .l)))))))) (.seq .l .l)))

theorem qaJ.con {b c d : Int} {r : Bool} {w : World} (f : M.qdB b c d) (e : r = M.qaJ b c d)  :
    Cl 176 #[(.int .u8 b), (iv c), (iv d)] w (fun g i => g = (.bool r) ∧ Ext w i) := by
 have H := wp.qaJ.math b c d f
 have a := Ext.refl w
 refine begK mixed Tryz.f176 ann (vc b c d) ?_
 unfold vc
 unfold wp.qaJ at H
 apply brc H<;>intro h H
 ·obtain ⟨j, k, H⟩ := qaa H
  refine (qe8.con k ).mono ?_
  rintro _ t ⟨rfl, l⟩
  have a := qa6 a l
  refine ⟨j, rfl, ?_⟩
  cases e.trans H.symm
  exact ⟨rfl, a⟩
 apply brc H<;>intro h H
 ·obtain ⟨m, n, H⟩ := qaa H
  refine (qbJ.con n ).mono ?_
  rintro _ u ⟨rfl, o⟩
  have a := qa6 a o
  refine ⟨m, rfl, ?_⟩
  cases e.trans H.symm
  exact ⟨rfl, a⟩
 apply brc H<;>intro h H
 ·obtain ⟨p, q, H⟩ := qaa H
  refine (qar.con q ).mono ?_
  rintro _ v ⟨rfl, s⟩
  have a := qa6 a s
  refine ⟨p, rfl, ?_⟩
  cases e.trans H.symm
  exact ⟨rfl, a⟩
 cases e.trans H.symm
 exact ⟨rfl, a⟩
def qbb.vc (p q r s b : Int) (w : World) (K : VK) : Prop :=
  newK w (.cells #[(iv p), (iv q), (iv r), (iv s)] 84) fun c g => ldI g (((bx c).add 0).add 0) fun t => Cl 175 #[(iv t)] g fun u h => (∃ (a : ByteArray), u = (.string a) ∧ qa1 (!(ByteArray.toList a == ByteArray.toList (⟨#[]⟩))) (((Cl 78 #[(iv b), (iv 0), (iv 32)] h.drew fun v d => (∃ (i : Bool), v = (.bool i) ∧ qa1 i (((0 : Int) ≤ 0 ∧ ∃ j : UInt8, (a : ByteArray)[((0 : Int).toNat)]? = some j ∧ ((ldI d (((bx c).add 1).add 0) fun x => ((Cl 176 #[(.int .u8 ((j.toNat : Nat) : Int)), (iv x), (iv b)] d fun y e => (∃ (k : Bool), y = (.bool k) ∧ qa1 k (((0 : Int) ≤ 1 ∧ ∃ l : UInt8, (a : ByteArray)[((1 : Int).toNat)]? = some l ∧ ((ldI e (((bx c).add 2).add 0) fun z => ((Cl 176 #[(.int .u8 ((l.toNat : Nat) : Int)), (iv z), (iv b)] e fun A f => (∃ (m : Bool), A = (.bool m) ∧ qa1 m (((0 : Int) ≤ 2 ∧ ∃ n : UInt8, (a : ByteArray)[((2 : Int).toNat)]? = some n ∧ ((ldI f (((bx c).add 3).add 0) fun B => ((Cl 176 #[(.int .u8 ((n.toNat : Nat) : Int)), (iv B), (iv b)] f fun C D => (∃ (o : Bool), C = (.bool o) ∧ K (.bool o) D)) ∧ True)) ∧ True))) (((((K (.bool false) f) ∧ True)) ∧ True)))) ∧ True)) ∧ True))) (((((((((K (.bool false) e) ∧ True)) ∧ True)) ∧ True)) ∧ True)))) ∧ True)) ∧ True))) (((((((((((((K (.bool false) d) ∧ True)) ∧ True)) ∧ True)) ∧ True)) ∧ True)) ∧ True)))) ∧ True)) (((((((((((((((K (.bool false) h.drew) ∧ True)) ∧ True)) ∧ True)) ∧ True)) ∧ True)) ∧ True)) ∧ True)))

def qbb.ann : Ann := (.seq .l (.seq .l (.seq .each .l)))

theorem qbb.con {d : D.Ins} {f : Int} {r : Bool} {w : World} (e : r = M.qbb d f)  :
    Cl 135 #[(.agg (iC d)), (iv f)] w (fun o p => o = (.bool r) ∧ Ext w p) := by
 have H := wp.qbb.math d f
 refine begK mixed Tryz.f135 ann (vc d.Op d.A d.B d.C f) ?_
 unfold vc
 unfold wp.qbb at H
 refine qaL (fun Z a0 L1 c q => ?_)
 refine ⟨_, (c.a 0), ?_⟩
 obtain ⟨s, t, H⟩ := qaa H
 refine (qdH.con t ).mono ?_
 rintro _ a1 ⟨rfl, g⟩
 refine ⟨s, rfl, ?_⟩
 have c := (c.ext g).ext (Ext.drew _)
 have b := qa6 (qa6 (qa6 (Ext.refl w) q) g) (Ext.drew _)
 apply brc H<;>intro h H
 ·refine qcn ?_
  obtain ⟨u, v, H⟩ := qaa H
  refine (qar.con v ).mono ?_
  rintro _ a2 ⟨rfl, i⟩
  have c := c.ext i
  have b := qa6 b i
  refine ⟨u, rfl, ?_⟩
  apply brc H<;>intro h H
  ·obtain ⟨⟨j, x⟩, H⟩ := H
   obtain ⟨y, z, E⟩ := qoU j x
   refine ⟨j, y, z, ?_⟩
   rw [E]
   refine qcn ?_
   refine ⟨_, (c.a 1), ?_⟩
   refine qcn ?_
   obtain ⟨F, H⟩ := H
   obtain ⟨G, I, H⟩ := qaa H
   refine (qaJ.con F I ).mono ?_
   rintro _ a3 ⟨rfl, k⟩
   have c := c.ext k
   have b := qa6 b k
   refine ⟨G, rfl, ?_⟩
   apply brc H<;>intro h H
   ·obtain ⟨⟨l, J⟩, H⟩ := H
    obtain ⟨K, L, N⟩ := qoU l J
    refine ⟨l, K, L, ?_⟩
    rw [N]
    refine qcn ?_
    refine ⟨_, (c.a 2), ?_⟩
    refine qcn ?_
    obtain ⟨O, H⟩ := H
    obtain ⟨P, Q, H⟩ := qaa H
    refine (qaJ.con O Q ).mono ?_
    rintro _ a4 ⟨rfl, m⟩
    have c := c.ext m
    have b := qa6 b m
    refine ⟨P, rfl, ?_⟩
    apply brc H<;>intro h H
    ·obtain ⟨⟨n, R⟩, H⟩ := H
     obtain ⟨S, T, U⟩ := qoU n R
     refine ⟨n, S, T, ?_⟩
     rw [U]
     refine qcn ?_
     refine ⟨_, (c.a 3), ?_⟩
     refine qcn ?_
     obtain ⟨V, H⟩ := H
     obtain ⟨W, X, H⟩ := qaa H
     refine (qaJ.con V X ).mono ?_
     rintro _ a5 ⟨rfl, Y⟩
     have b := qa6 b Y
     refine ⟨W, rfl, ?_⟩
     cases e.trans H.symm
     exact ⟨rfl, b⟩
    refine qcn ?_
    refine qcn ?_
    cases e.trans H.symm
    exact ⟨rfl, b⟩
   refine qcn ?_
   refine qcn ?_
   refine qcn ?_
   refine qcn ?_
   cases e.trans H.symm
   exact ⟨rfl, b⟩
  refine qcn ?_
  refine qcn ?_
  refine qcn ?_
  refine qcn ?_
  refine qcn ?_
  refine qcn ?_
  cases e.trans H.symm
  exact ⟨rfl, b⟩
 refine qcn ?_
 refine qcn ?_
 refine qcn ?_
 refine qcn ?_
 refine qcn ?_
 refine qcn ?_
 refine qcn ?_
 cases e.trans H.symm
 exact ⟨rfl, b⟩
def qbF.vc (d e f g : Int) (h : Addr) (w : World) (K : VK) : Prop :=
  newK w (.cells #[(iv d), (iv e), (iv f), (iv g)] 84) fun b a => ldI a ((bx b).add 0) fun i => ldI a ((bx b).add 1) fun j => ldI a ((bx b).add 2) fun k => ldI a ((bx b).add 3) fun l => ldS a (h.add 0) fun p m q => Cl 135 #[(.agg #[(iv i), (iv j), (iv k), (iv l)]), (iv ((m : Nat) : Int))] a fun n o => (∃ (c : Bool), n = (.bool c) ∧ K (.bool (!c)) o)

def qbF.ann : Ann := (.seq .l (.seq .l .l))

theorem qbF.con {b : D.Ins} {c : List D.Ins} {e g : Nat} {h : OA} {r : Bool} {w : World} (j : r = M.qbF b c) (f : Blk w e 30 #[(sv h c.length g)]) (q : Row el84 w h c) (s : c.length ≤ g) :
    Cl 134 #[(.agg (iC b)), (.pointer (some (bx e)))] w (fun k l => k = (.bool r) ∧ Ext w l) := by
 have H := wp.qbF.math b c
 refine begK mixed Tryz.f134 ann (vc b.Op b.A b.B b.C (bx e)) ?_
 unfold vc
 unfold wp.qbF at H
 refine qaL (fun t u v d i => ?_)
 have f := f.ext i
 refine ⟨_, (d.a 0), _, (d.a 1), _, (d.a 2), _, (d.a 3), _, _, _, (f.a 0), ?_⟩
 obtain ⟨m, n, H⟩ := qaa H
 refine (qbb.con n ).mono ?_
 rintro _ x ⟨rfl, o⟩
 have p := qa6 (qa6 (Ext.refl w) i) o
 refine ⟨m, rfl, ?_⟩
 cases j.trans H.symm
 exact ⟨rfl, p⟩
def qac.vc (g : OA) (d p h : Nat) (i : Array Value) (w : World) (K : VK) : Prop :=
  qdh (σ := Int × Unit) (fun a b j => qa1 (decide (a.1 < ((d : Nat) : Int))) ((idx a.1 d g fun c => ldI b ((c.add ((a.1.toNat) * 4)).add 0) fun k => ldI b ((c.add ((a.1.toNat) * 4)).add 1) fun l => ldI b ((c.add ((a.1.toNat) * 4)).add 2) fun m => ldI b ((c.add ((a.1.toNat) * 4)).add 3) fun n => Cl h (#[(.agg #[(iv k), (iv l), (iv m), (iv n)])] ++ i) b fun o e => (∃ (f : Bool), o = (.bool f) ∧ qa1 f (K (iv a.1) e) (j ((wrap .i64 (a.1 + 1)), ()) e)))) (K (iv (-1)) b)) (0, ()) w

def qac.ann : Ann := (.seq .l (.seq (.seq .l (.one (.loop [(8, .int .i64)] (.seq .l (.seq (.two .l .l) (.seq (.one (.seq .l (.seq .l (.two (.seq .l .l) .l)))) .l)))))) (.seq .l .l)))

theorem qac.start {A0 : OA} {n0 c0 f1 : Nat} {cap1 : Array Value} {w : World} {K : Value → World → Prop} (h : qac.vc A0 n0 c0 f1 cap1 w K) : Cl 174 #[(sv A0 n0 c0), (.func (.func f1) #[] cap1)] w K :=
  qdM mixed (fn := Tryz.f174) (by kernel_rfl) (by kernel_rfl) (an := qac.ann) (args := [(sv A0 n0 c0), (.func (.func f1) #[] cap1)]) (Eq.mpr (by kernel_rfl) h)

theorem qac.con {b : List D.Ins} {k : OA} {l m : Nat} {n : Array Value} {d : D.Ins → Bool} {g : D.Ins → Prop} {r : Int} {w : World} (u : M.qd4 b d g) (o : r = M.qac b d) (v : Row el84 w k b) (R : b.length ≤ l) (x : ∀ (i : D.Ins), g i → ∀ c : World, Ext w c → Cl m (#[(.agg (iC i))] ++ n) c (fun j y => j = (.bool (d i)) ∧ Ext c y)) :
    Cl 174 #[(sv k b.length l), (.func (.func m) #[] n)] w (fun j c => j = (iv r) ∧ Ext w c) := by
 have H := wp.qac.math b d g u
 have a := Ext.refl w
 refine qac.start ?_
 unfold vc
 unfold wp.qac at H
 obtain ⟨z, ⟨A, B⟩, p⟩ := H
 refine ⟨fun C E c => ∃ (e : Int), E = (e, ()) ∧ z C (e, ()) ∧ Ext w c, ⟨A, 0, rfl, B, a⟩, ?_⟩
 rintro F _ S ⟨e, rfl, q, a⟩
 have H := p F _ q
 clear p q
 try dsimp only at H ⊢
 apply brc H<;>intro h H
 ·obtain ⟨⟨s, t⟩, H⟩ := H
  obtain ⟨G, I, f⟩ := Row.at (v.ext a) s t
  refine ⟨s, t, G, I, _, (f 0 _ rfl), _, (f 1 _ rfl), _, (f 2 _ rfl), _, (f 3 _ rfl), ?_⟩
  obtain ⟨J, H⟩ := H
  obtain ⟨K, L, H⟩ := qaa H
  refine (x (rd b e) J _ a).mono ?_
  rintro _ T ⟨rfl, N⟩
  rw [← L]
  have a := qa6 a N
  refine ⟨K, rfl, ?_⟩
  apply brc H<;>intro h H
  ·cases o.trans H.symm
   exact ⟨rfl, a⟩
  obtain ⟨O, P, Q⟩ := H
  exact ⟨O, P, _, rfl, Q, a⟩
 cases o.trans H.symm
 exact ⟨rfl, a⟩
def qad.vc (b : OA) (c d e : Nat) (f : Array Value) (w : World) (K : VK) : Prop :=
  Cl 174 #[(sv b c d), (.func (.func e) #[] f)] w fun g h => (∃ (a : Int), g = (iv a) ∧ K (.bool (decide (a ≥ 0))) h)

def qad.ann : Ann := (.seq .l (.seq .l .l))

theorem qad.start {A0 : OA} {n0 c0 f1 : Nat} {cap1 : Array Value} {w : World} {K : Value → World → Prop} (h : qad.vc A0 n0 c0 f1 cap1 w K) : Cl 133 #[(sv A0 n0 c0), (.func (.func f1) #[] cap1)] w K :=
  qdM mixed (fn := Tryz.f133) (by kernel_rfl) (by kernel_rfl) (an := qad.ann) (args := [(sv A0 n0 c0), (.func (.func f1) #[] cap1)]) (Eq.mpr (by kernel_rfl) h)

theorem qad.con {b : List D.Ins} {h : OA} {i j : Nat} {k : Array Value} {e : D.Ins → Bool} {f : D.Ins → Prop} {r : Bool} {w : World} (l : M.qcH b e f) (m : r = M.qad b e) (n : Row el84 w h b) (o : b.length ≤ i) (p : ∀ (c : D.Ins), f c → ∀ a : World, Ext w a → Cl j (#[(.agg (iC c))] ++ k) a (fun g q => g = (.bool (e c)) ∧ Ext a q)) :
    Cl 133 #[(sv h b.length i), (.func (.func j) #[] k)] w (fun g a => g = (.bool r) ∧ Ext w a) := by
 have H := wp.qad.math b e f l
 have d := Ext.refl w
 refine qad.start ?_
 unfold vc
 unfold wp.qad at H
 obtain ⟨s, H⟩ := H
 obtain ⟨t, u, H⟩ := qaa H
 refine (qac.con s u (n.ext d) o (fun c  v a x => p c  v a (qa6 d x))).mono ?_
 rintro _ z ⟨rfl, y⟩
 have d := qa6 d y
 refine ⟨t, rfl, ?_⟩
 cases m.trans H.symm
 exact ⟨rfl, d⟩
def qbn.vc (d : OA) (e f : Nat) (w : World) (K : VK) : Prop :=
  newK w (.cells #[(sv d e f)] 30) fun b a => ldS a ((bx b).add 0) fun m g n => qa1 (decide (((g : Nat) : Int) ≤ 32)) (ldS a ((bx b).add 0) fun h i j => Cl 133 #[(sv h i j), (.func (.func 134) #[] #[(.pointer (some (bx b)))])] a fun k l => (∃ (c : Bool), k = (.bool c) ∧ K (.bool (!c)) l)) (K (.bool false) a)

def qbn.ann : Ann := (.seq .l (.seq .l .l))

theorem qbn.con {b : List D.Ins} {d : OA} {e : Nat} {r : Bool} {w : World} (m : M.qej b) (g : r = M.qbn b) (i : Row el84 w d b) (j : b.length ≤ e) :
    Cl 75 #[(sv d b.length e)] w (fun n k => n = (.bool r) ∧ Ext w k) := by
 have H := wp.qbn.math b m
 refine begK mixed Tryz.f75 ann (vc d b.length e) ?_
 unfold vc
 unfold wp.qbn at H
 refine qaL (fun u v x f o => ?_)
 have c := qa6 (Ext.refl w) o
 refine ⟨_, _, _, (f.a 0), ?_⟩
 apply brc H<;>intro h H
 ·refine ⟨_, _, _, (f.a 0), ?_⟩
  obtain ⟨p, H⟩ := H
  obtain ⟨q, s, H⟩ := qaa H
  refine (qad.con p s (i.ext c) j (fun y z k l => qii (l1 := [_]) (l2 := [_]) (qbF.con rfl (f.ext l) (i.ext (qa6 c l)) j))).mono ?_
  rintro _ A ⟨rfl, t⟩
  have c := qa6 c t
  refine ⟨q, rfl, ?_⟩
  cases g.trans H.symm
  exact ⟨rfl, c⟩
 cases g.trans H.symm
 exact ⟨rfl, c⟩
def qcF.vc (c d e f : Int) (w : World) (K : VK) : Prop :=
  newK w (.cells #[(iv c), (iv d), (iv e), (iv f)] 84) fun g a => ldI a (((bx g).add 0).add 0) fun h => Cl 78 #[(iv h), (iv 0), (iv 12)] a fun i j => (∃ (b : Bool), i = (.bool b) ∧ K (.bool b) j)

def qcF.ann : Ann := (.seq .l (.seq .l .l))

theorem qcF.con {b : D.Ins} {r : Bool} {w : World} (c : r = M.qcF b)  :
    Cl 121 #[(.agg (iC b))] w (fun d e => d = (.bool r) ∧ Ext w e) := by
 have H := wp.qcF.math b
 refine begK mixed Tryz.f121 ann (vc b.Op b.A b.B b.C) ?_
 unfold vc
 unfold wp.qcF at H
 refine qaL (fun l m n f g => ?_)
 refine ⟨_, (f.a 0), ?_⟩
 obtain ⟨h, i, H⟩ := qaa H
 refine (qar.con i ).mono ?_
 rintro _ o ⟨rfl, j⟩
 have k := qa6 (qa6 (Ext.refl w) g) j
 refine ⟨h, rfl, ?_⟩
 cases c.trans H.symm
 exact ⟨rfl, k⟩
def qcv.vc (a b : Int) (w : World) (K : VK) : Prop :=
  Cl 207 #[(iv a), (iv b), (iv (wrap .i64 (a - b)))] w fun d e => (∃ (c : Int), d = (iv c) ∧ K (iv c) e)

def qcv.ann : Ann := (.seq .l (.seq .l .l))

theorem qcv.con {a b r : Int} {w : World} (c : r = M.qcv a b)  :
    Cl 225 #[(iv a), (iv b)] w (fun d e => d = (iv r) ∧ Ext w e) := by
 have H := wp.qcv.math a b
 refine begK mixed Tryz.f225 ann (vc a b) ?_
 unfold vc
 unfold wp.qcv at H
 obtain ⟨f, g, H⟩ := qaa H
 refine (qbs.con g ).mono ?_
 rintro _ j ⟨rfl, h⟩
 have i := qa6 (Ext.refl w) h
 refine ⟨f, rfl, ?_⟩
 cases c.trans H.symm
 exact ⟨rfl, i⟩
def qct.vc (a b : Int) (w : World) (K : VK) : Prop :=
  Cl 207 #[(iv a), (iv b), (iv (wrap .i64 (a * b)))] w fun d e => (∃ (c : Int), d = (iv c) ∧ K (iv c) e)

def qct.ann : Ann := (.seq .l (.seq .l .l))

theorem qct.con {a b r : Int} {w : World} (c : r = M.qct a b)  :
    Cl 226 #[(iv a), (iv b)] w (fun d e => d = (iv r) ∧ Ext w e) := by
 have H := wp.qct.math a b
 refine begK mixed Tryz.f226 ann (vc a b) ?_
 unfold vc
 unfold wp.qct at H
 obtain ⟨f, g, H⟩ := qaa H
 refine (qbs.con g ).mono ?_
 rintro _ j ⟨rfl, h⟩
 have i := qa6 (Ext.refl w) h
 refine ⟨f, rfl, ?_⟩
 cases c.trans H.symm
 exact ⟨rfl, i⟩
def qcm.vc (b c : Int) (w : World) (K : VK) : Prop :=
  Cl 178 #[(iv b)] w fun g d => (∃ (e : Bool), g = (.bool e) ∧ qa1 e (Cl 178 #[(iv c)] d fun h a => (∃ (f : Bool), h = (.bool f) ∧ qa1 f (qa1 (decide (b < c)) (K (iv 1) a) (K (iv 0) a)) (K (iv 0) a))) (K (iv 0) d))

def qcm.ann : Ann := (.seq .l (.seq (.seq .l (.two (.seq .l .l) .l)) (.seq .l .l)))

theorem qcm.con {b c r : Int} {w : World} (d : r = M.qcm b c)  :
    Cl 227 #[(iv b), (iv c)] w (fun e f => e = (iv r) ∧ Ext w f) := by
 have H := wp.qcm.math b c
 refine begK mixed Tryz.f227 ann (vc b c) ?_
 unfold vc
 unfold wp.qcm at H
 obtain ⟨g, i, H⟩ := qaa H
 refine (qbJ.con i ).mono ?_
 rintro _ n ⟨rfl, j⟩
 have a := qa6 (Ext.refl w) j
 refine ⟨g, rfl, ?_⟩
 apply brc H<;>intro h H
 ·obtain ⟨k, l, H⟩ := qaa H
  refine (qbJ.con l ).mono ?_
  rintro _ o ⟨rfl, m⟩
  have a := qa6 a m
  refine ⟨k, rfl, ?_⟩
  apply brc H<;>intro h H
  ·apply brc H<;>intro h H
   ·cases d.trans H.symm
    exact ⟨rfl, a⟩
   cases d.trans H.symm
   exact ⟨rfl, a⟩
  cases d.trans H.symm
  exact ⟨rfl, a⟩
 cases d.trans H.symm
 exact ⟨rfl, a⟩
def qbD.vc (b : Int) (w : World) (K : VK) : Prop :=
  Cl 78 #[(iv b), (iv 0), (iv 2)] w fun c d => (∃ (a : Bool), c = (.bool a) ∧ K (.bool a) d)

def qbD.ann : Ann := (.seq .l (.seq .l .l))

theorem qbD.con {a : Int} {r : Bool} {w : World} (b : r = M.qbD a)  :
    Cl 137 #[(iv a)] w (fun c d => c = (.bool r) ∧ Ext w d) := by
 have H := wp.qbD.math a
 refine begK mixed Tryz.f137 ann (vc a) ?_
 unfold vc
 unfold wp.qbD at H
 obtain ⟨e, f, H⟩ := qaa H
 refine (qar.con f ).mono ?_
 rintro _ i ⟨rfl, g⟩
 have h := qa6 (Ext.refl w) g
 refine ⟨e, rfl, ?_⟩
 cases b.trans H.symm
 exact ⟨rfl, h⟩
def qaX.vc (d : OA) (c i : Nat) (e : Int) (w : World) (K : VK) : Prop :=
  qdh (σ := Int × Unit) (fun a b f => qa1 (decide (a.1 < ((c : Nat) : Int))) ((idx a.1 c d fun g => ldI b ((g.add ((a.1.toNat) * 1)).add 0) fun h => qa1 (e == h) (K (iv a.1) b) (f ((wrap .i64 (a.1 + 1)), ()) b))) (K (iv (-1)) b)) (0, ()) w

def qaX.ann : Ann := (.seq .l (.seq (.seq .l (.one (.loop [(8, .int .i64)] (.seq .l (.seq (.two .l .l) (.seq (.one (.seq .l (.seq .l (.two (.seq .l .l) .l)))) .l)))))) (.seq .l .l)))

theorem qaX.con {a : List Int} {d : OA} {e : Nat} {c r : Int} {w : World} (n : M.qes a c) (i : r = M.qaX a c) (o : Row el3 w d a) (E : a.length ≤ e) :
    Cl 210 #[(sv d a.length e), (iv c)] w (fun p f => p = (iv r) ∧ Ext w f) := by
 have H := wp.qaX.math a c n
 have b := Ext.refl w
 refine begK mixed Tryz.f210 ann (vc d a.length e c) ?_
 unfold vc
 unfold wp.qaX at H
 obtain ⟨q, ⟨s, t⟩, j⟩ := H
 refine ⟨fun u v f => ∃ (g : Int), v = (g, ()) ∧ q u (g, ()) ∧ Ext w f, ⟨s, 0, rfl, t, b⟩, ?_⟩
 rintro x _ F ⟨g, rfl, k, b⟩
 have H := j x _ k
 clear j k
 try dsimp only at H ⊢
 apply brc H<;>intro h H
 ·obtain ⟨⟨l, m⟩, H⟩ := H
  obtain ⟨y, z, A⟩ := Row.at (o.ext b) l m
  refine ⟨l, m, y, z, _, (A 0 _ rfl), ?_⟩
  apply brc H<;>intro h H
  ·cases i.trans H.symm
   exact ⟨rfl, b⟩
  obtain ⟨B, C, D⟩ := H
  exact ⟨B, C, _, rfl, D, b⟩
 cases i.trans H.symm
 exact ⟨rfl, b⟩
def qb5.vc (b : OA) (c d : Nat) (e : Int) (w : World) (K : VK) : Prop :=
  Cl 210 #[(sv b c d), (iv e)] w fun f g => (∃ (a : Int), f = (iv a) ∧ K (.bool (decide (a ≥ 0))) g)

def qb5.ann : Ann := (.seq .l (.seq .l .l))

theorem qb5.con {a : List Int} {d : OA} {e : Nat} {b : Int} {r : Bool} {w : World} (f : M.qeb a b) (g : r = M.qb5 a b) (h : Row el3 w d a) (i : a.length ≤ e) :
    Cl 182 #[(sv d a.length e), (iv b)] w (fun j k => j = (.bool r) ∧ Ext w k) := by
 have H := wp.qb5.math a b f
 have c := Ext.refl w
 refine begK mixed Tryz.f182 ann (vc d a.length e b) ?_
 unfold vc
 unfold wp.qb5 at H
 obtain ⟨l, H⟩ := H
 obtain ⟨m, n, H⟩ := qaa H
 refine (qaX.con l n (h.ext c) i).mono ?_
 rintro _ p ⟨rfl, o⟩
 have c := qa6 c o
 refine ⟨m, rfl, ?_⟩
 cases g.trans H.symm
 exact ⟨rfl, c⟩
def qb9.vc (d : OA) (b e : Nat) (w : World) (K : VK) : Prop :=
  qdh (σ := Int × Int × Unit) (fun a c g => qa1 (decide (a.2.1 < ((b : Nat) : Int))) (qa1 (decide (a.2.1 < 4000)) ((idx a.2.1 b d fun h => ∃ (f : Int), c.cell? ((h.add ((a.2.1.toNat) * 1)).add 0) = some (.int .u8 f) ∧ g ((qdQ .i64 (wrap .i64 ((wrap .i64 ((wrap .i64 (a.1 * 131)) + (wrap .i64 f))) + 7)) 1073741823), (wrap .i64 (a.2.1 + 1)), ()) c)) (newK c (.cells #[(sv d b e), (iv 0), (iv a.1)] 129) fun i j => K (.pointer (some (bx i))) j)) (newK c (.cells #[(sv d b e), (iv 0), (iv a.1)] 129) fun k l => K (.pointer (some (bx k))) l)) ((wrap .i64 (98561 + ((b : Nat) : Int))), 0, ()) w

def qb9.ann : Ann := (.seq .l (.seq .l (.seq (.seq .l (.one (.loop [(3, .int .i64), (4, .int .i64)] (.seq (.seq .l (.two .l .l)) (.seq (.one .l) .l))))) (.seq .l .l))))

theorem qb9.con {c : List Int} {d : OA} {e : Nat} {r : D.Cur} {w : World} (t : M.qfC c) (n : r = M.qb9 c) (u : Row el5 w d c) (S : c.length ≤ e) :
    Cl 59 #[(sv d c.length e)] w (fun v f => ∃ (g : Nat), v = (.pointer (some (bx g))) ∧ Blk f g 129 #[(sv d r.b.length e), (iv r.i), (iv r.h)] ∧ r.b = c ∧ w.heap.size ≤ g ∧ Ext w f) := by
 have H := wp.qb9.math c t
 have a := Ext.refl w
 refine begK mixed Tryz.f59 ann (vc d c.length e) ?_
 unfold vc
 unfold wp.qb9 at H
 obtain ⟨x, ⟨y, z⟩, o⟩ := H
 refine ⟨fun A B f => ∃ (j k : Int), B = (j, k, ()) ∧ x A (j, k, ()) ∧ Ext w f, ⟨y, (wrap .i64 (98561 + (c.length : Int))), 0, rfl, z, a⟩, ?_⟩
 rintro C _ T ⟨j, k, rfl, p, a⟩
 have H := o C _ p
 clear o p
 try dsimp only at H ⊢
 apply brc H<;>intro h H
 ·apply brc H<;>intro h H
  ·obtain ⟨⟨q, s⟩, H⟩ := H
   obtain ⟨E, F, G⟩ := Row.at (u.ext a) q s
   refine ⟨q, s, E, F, _, (G 0 _ rfl), ?_⟩
   obtain ⟨I, J, K⟩ := H
   exact ⟨I, J, _, _, rfl, K, a⟩
  refine qaL (fun L U l N O => ?_)
  have l := Nat.le_trans a.size l
  have a := qa6 a O
  cases n.trans H.symm
  exact ⟨L, rfl, N, rfl, l, a⟩
 refine qaL (fun P V m Q R => ?_)
 have m := Nat.le_trans a.size m
 have a := qa6 a R
 cases n.trans H.symm
 exact ⟨P, rfl, Q, rfl, m, a⟩
def qah.vc (a : Addr) (w : World) (K : VK) : Prop :=
  ldI w ((a.add 2).add 0) fun l => qa5 (a.add 2) [(iv (wrap .i64 ((wrap .i64 (l * 6364136223846793005)) + 1442695040888963407)))] 0 w fun b => ldI b ((a.add 2).add 0) fun d => ((0 : Int) ≤ 33 ∧ ldI b ((a.add 2).add 0) fun e => ((0 : Int) ≤ 45 ∧ ∃ (f : Int), b.drew.cell? ((a.add 1).add 0) = some (iv f) ∧ ∃ (m : OA) (g n : Nat), b.drew.cell? ((a.add 0).add 0) = some (sv m g n) ∧ qa1 (decide (f < ((g : Nat) : Int))) (∃ (h : OA) (i o : Nat), b.drew.drew.cell? ((a.add 0).add 0) = some (sv h i o) ∧ ∃ (c : Int), b.drew.drew.cell? ((a.add 1).add 0) = some (iv c) ∧ (idx c i h fun p => ∃ (j : Int), b.drew.drew.cell? ((p.add ((c.toNat) * 1)).add 0) = some (.int .u8 j) ∧ ∃ (k : Int), b.drew.drew.drew.cell? ((a.add 1).add 0) = some (iv k) ∧ qa5 (a.add 1) [(iv (wrap .i64 (k + 1)))] 0 b.drew.drew.drew fun q => K (iv (qdQ .i64 (wrap .i64 ((qdQ .i64 (qgY .i64 (Int.fdiv d (2 ^ (min ((33 : Int).toNat) (IntKind.bits .i64)))) (Int.fdiv e (2 ^ (min ((45 : Int).toNat) (IntKind.bits .i64))))) 255) + (wrap .i64 j))) 255)) q)) (K (iv (qdQ .i64 (qgY .i64 (Int.fdiv d (2 ^ (min ((33 : Int).toNat) (IntKind.bits .i64)))) (Int.fdiv e (2 ^ (min ((45 : Int).toNat) (IntKind.bits .i64))))) 255)) b.drew.drew)))

def qah.ann : Ann := (.seq .l (.seq .l (.seq .l (.seq (.seq .l (.two (.seq .l .l) .l)) (.seq .l .l)))))

theorem qah.con {d : D.Cur} {e j : Nat} {f : OA} {r : Int × D.Cur} {w : World} (s : M.qdW d) (m : r = M.qah d) (c : Blk w e 129 #[(sv f d.b.length j), (iv d.i), (iv d.h)]) (t : Row el5 w f d.b) (E : d.b.length ≤ j) (u : d.b ≠ [] → ∀ g, InB f g → ¬ (fun k => k = e) g) :
    Cl 126 #[(.pointer (some (bx e)))] w (fun v n => v = (iv r.1) ∧ Blk n e 129 #[(sv f r.2.b.length j), (iv r.2.i), (iv r.2.h)] ∧ r.2.b = d.b ∧ Chg (fun k => k = e) w n) := by
 have H := wp.qah.math d s
 refine begK mixed Tryz.f126 ann (vc (bx e)) ?_
 unfold vc
 unfold wp.qah at H
 refine ⟨_, (c.a 2), ?_⟩
 refine stB c 2 #[(sv f d.b.length j), (iv d.i), (iv (wrap .i64 ((wrap .i64 (d.h * 6364136223846793005)) + 1442695040888963407)))] (fun F x y => ?_)
 have c := x
 refine ⟨_, (c.a 2), by decide, _, (c.a 2), by decide, ?_⟩
 have c := c.ext (Ext.drew _)
 refine ⟨_, (c.a 1), _, _, _, (c.a 0), ?_⟩
 have c := c.ext (Ext.drew _)
 have l := (((Chg.refl (fun k => k = e) w).chgb y (Or.inr rfl)).then (Ext.drew _)).then (Ext.drew _)
 apply brc H<;>intro h H
 ·refine ⟨_, _, _, (c.a 0), _, (c.a 1), ?_⟩
  obtain ⟨⟨p, q⟩, H⟩ := H
  obtain ⟨z, A, B⟩ := Row.at (t.chgS l u) p q
  refine ⟨p, q, z, A, _, (B 0 _ rfl), ?_⟩
  have c := c.ext (Ext.drew _)
  refine ⟨_, (c.a 1), ?_⟩
  refine qda c (o := 1) (cs' := #[(sv f d.b.length j), (iv (wrap .i64 (d.i + 1))), (iv (wrap .i64 ((wrap .i64 (d.h * 6364136223846793005)) + 1442695040888963407)))]) rfl rfl (Nat.le_of_ble_eq_true rfl) rfl (fun G c C => ?_)
  have l := (l.then (Ext.drew _)).chgb C (Or.inr rfl)
  cases m.trans H.symm
  exact ⟨rfl, c, rfl, l⟩
 cases m.trans H.symm
 exact ⟨rfl, c, rfl, l⟩
def qa0.vc (b : Addr) (a : Int) (w : World) (K : VK) : Prop :=
  qa1 (decide (a ≤ 0)) (K (iv 0) w) (qa1 (decide (a ≤ 256)) (Cl 126 #[(.pointer (some b))] w fun h i => (∃ (c : Int), h = (iv c) ∧ ((a : Int) ≠ 0 ∧ K (iv (Int.tmod c a)) i))) (Cl 126 #[(.pointer (some b))] w fun j k => (∃ (d : Int), j = (iv d) ∧ Cl 126 #[(.pointer (some b))] k fun l m => (∃ (e : Int), l = (iv e) ∧ Cl 126 #[(.pointer (some b))] m fun n o => (∃ (f : Int), n = (iv f) ∧ Cl 126 #[(.pointer (some b))] o fun p q => (∃ (g : Int), p = (iv g) ∧ ((a : Int) ≠ 0 ∧ K (iv (Int.tmod (wrap .i64 ((wrap .i64 ((wrap .i64 ((wrap .i64 (d * 16777216)) + (wrap .i64 (e * 65536)))) + (wrap .i64 (f * 256)))) + g)) a)) q)))))))

def qa0.ann : Ann := (.seq .l (.seq (.seq .l (.two (.seq .l .l) .l)) (.seq (.seq .l (.two (.seq .l .l) .l)) (.seq .l (.seq .l (.seq .l (.seq .l (.seq .l .l))))))))

theorem qa0.con {f : D.Cur} {m t : Nat} {s : OA} {n : Int} {r : Int × D.Cur} {w : World} (x : M.qav f n) (u : r = M.qa0 f n) (e : Blk w m 129 #[(sv s f.b.length t), (iv f.i), (iv f.h)]) (o : Row el5 w s f.b) (p : f.b.length ≤ t) (j : f.b ≠ [] → ∀ g, InB s g → ¬ (fun q => q = m) g) :
    Cl 67 #[(.pointer (some (bx m))), (iv n)] w (fun y v => y = (iv r.1) ∧ Blk v m 129 #[(sv s r.2.b.length t), (iv r.2.i), (iv r.2.h)] ∧ r.2.b = f.b ∧ Chg (fun q => q = m) w v) := by
 have H := wp.qa0.math f n x
 have c := Chg.refl (fun q => q = m) w
 refine begK mixed Tryz.f67 ann (vc (bx m) n) ?_
 unfold vc
 unfold wp.qa0 at H
 apply brc H<;>intro h H
 ·cases u.trans H.symm
  exact ⟨rfl, e, rfl, c⟩
 apply brc H<;>intro h H
 ·obtain ⟨z, H⟩ := H
  obtain ⟨A, B, H⟩ := qaa H
  refine (qah.con z B e (o.chgS c j) p (fun k => (fun g a l => j k g a l))).mono ?_
  rintro _ a3 ⟨rfl, d, C, E⟩
  simp only [bC, wC, C] at d
  have c := c.chg E (fun g a => Or.inr a)
  have e := d
  refine ⟨A.1, rfl, ?_⟩
  obtain ⟨F, H⟩ := H
  refine ⟨F, ?_⟩
  cases u.trans H.symm
  exact ⟨rfl, e, rfl, c⟩
 obtain ⟨G, H⟩ := H
 obtain ⟨I, J, H⟩ := qaa H
 refine (qah.con G J e (o.chgS c j) p (fun k => (fun g a l => j k g a l))).mono ?_
 rintro _ a4 ⟨rfl, d, K, L⟩
 simp only [bC, wC, K] at d
 have c := c.chg L (fun g a => Or.inr a)
 have e := d
 refine ⟨I.1, rfl, ?_⟩
 obtain ⟨N, H⟩ := H
 obtain ⟨O, P, H⟩ := qaa H
 refine (qah.con N P e (o.chgS c j) p (fun k => (fun g a l => j k g a l))).mono ?_
 rintro _ a5 ⟨rfl, d, Q, R⟩
 simp only [bC, wC, Q] at d
 have c := c.chg R (fun g a => Or.inr a)
 have e := d
 refine ⟨O.1, rfl, ?_⟩
 obtain ⟨S, H⟩ := H
 obtain ⟨T, U, H⟩ := qaa H
 refine (qah.con S U e (o.chgS c j) p (fun k => (fun g a l => j k g a l))).mono ?_
 rintro _ a6 ⟨rfl, d, V, W⟩
 simp only [bC, wC, V] at d
 have c := c.chg W (fun g a => Or.inr a)
 have e := d
 refine ⟨T.1, rfl, ?_⟩
 obtain ⟨X, H⟩ := H
 obtain ⟨Y, Z, H⟩ := qaa H
 refine (qah.con X Z e (o.chgS c j) p (fun k => (fun g a l => j k g a l))).mono ?_
 rintro _ a7 ⟨rfl, d, a0, a1⟩
 simp only [bC, wC, a0] at d
 have c := c.chg a1 (fun g a => Or.inr a)
 have e := d
 refine ⟨Y.1, rfl, ?_⟩
 obtain ⟨a2, H⟩ := H
 refine ⟨a2, ?_⟩
 cases u.trans H.symm
 exact ⟨rfl, e, rfl, c⟩
def qau.vc (d : Addr) (e : OA) (b i : Nat) (w : World) (K : VK) : Prop :=
  Cl 67 #[(.pointer (some d)), (iv ((b : Nat) : Int))] w fun f c => (∃ (a : Int), f = (iv a) ∧ (idx a b e fun g => ldI c ((g.add ((a.toNat) * 1)).add 0) fun h => K (iv h) c))

def qau.ann : Ann := (.seq .l (.seq .l .l))

theorem qau.con {a : D.Cur} {c l m : Nat} {j k : OA} {d : List Int} {r : Int × D.Cur} {w : World} (v : M.qef a d) (x : r = M.qau a d) (n : Blk w c 129 #[(sv j a.b.length l), (iv a.i), (iv a.h)]) (y : Row el5 w j a.b) (z : a.b.length ≤ l) (A : Row el3 w k d) (Q : d.length ≤ m) (p : a.b ≠ [] → ∀ g, InB j g → ¬ (fun e => e = c) g) (B : d ≠ [] → ∀ g, InB k g → ¬ (fun e => e = c) g) :
    Cl 140 #[(.pointer (some (bx c))), (sv k d.length m)] w (fun C q => C = (iv r.1) ∧ Blk q c 129 #[(sv j r.2.b.length l), (iv r.2.i), (iv r.2.h)] ∧ r.2.b = a.b ∧ Chg (fun e => e = c) w q) := by
 have H := wp.qau.math a d v
 have f := Chg.refl (fun e => e = c) w
 refine begK mixed Tryz.f140 ann (vc (bx c) k d.length m) ?_
 unfold vc
 unfold wp.qau at H
 obtain ⟨E, H⟩ := H
 obtain ⟨F, G, H⟩ := qaa H
 refine (qa0.con E G n (y.chgS f p) z (fun I => (fun g o J => p I g o J))).mono ?_
 rintro _ R ⟨rfl, s, K, L⟩
 simp only [bC, wC, K] at s
 have f := f.chg L (fun g o => Or.inr o)
 have n := s
 refine ⟨F.1, rfl, ?_⟩
 obtain ⟨⟨t, u⟩, H⟩ := H
 obtain ⟨N, O, P⟩ := Row.at (A.chgS f B) t u
 refine ⟨t, u, N, O, _, (P 0 _ rfl), ?_⟩
 cases x.trans H.symm
 exact ⟨rfl, n, rfl, f⟩
def qaG.vc (d : Addr) (w : World) (K : VK) : Prop :=
  newK w (.cells #[(iv 0), (iv 0), (iv 0), (iv 0)] 84) fun b s => Cl 67 #[(.pointer (some d)), (iv 9)] s fun t u => (∃ (m : Int), t = (iv m) ∧ Cl 67 #[(.pointer (some d)), (iv 4)] u fun v x => (∃ (n : Int), v = (iv n) ∧ newK x (.cells #[(iv 0), (iv 0), (iv 0), (iv 0)] 84) fun a y => qa5 (bx a) [(iv (wrap .i64 (1 + m))), (iv n), (iv 0), (iv 0)] 0 y fun c => ldI c (((bx a).add 0).add 0) fun l => qa1 (l == 1) (Cl 67 #[(.pointer (some d)), (iv 6)] c fun z A => (∃ (o : Int), z = (iv o) ∧ qa5 ((bx a).add 2) [(iv o)] 0 A fun e => ldI e ((bx a).add 0) fun B => ldI e ((bx a).add 1) fun C => ldI e ((bx a).add 2) fun D => ldI e ((bx a).add 3) fun E => qa5 (bx b) [(iv B), (iv C), (iv D), (iv E)] 0 e fun f => ldI f ((bx b).add 0) fun F => ldI f ((bx b).add 1) fun G => ldI f ((bx b).add 2) fun H => ldI f ((bx b).add 3) fun I => K (.agg #[(iv F), (iv G), (iv H), (iv I)]) f)) (qa1 (l == 8) (ldI c ((bx a).add 0) fun J => ldI c ((bx a).add 1) fun L => ldI c ((bx a).add 2) fun M => ldI c ((bx a).add 3) fun N => qa5 (bx b) [(iv J), (iv L), (iv M), (iv N)] 0 c fun g => ldI g ((bx b).add 0) fun O => ldI g ((bx b).add 1) fun P => ldI g ((bx b).add 2) fun Q => ldI g ((bx b).add 3) fun R => K (.agg #[(iv O), (iv P), (iv Q), (iv R)]) g) (qa1 (l == 2) (Cl 67 #[(.pointer (some d)), (iv 4)] c fun S T => (∃ (p : Int), S = (iv p) ∧ qa5 ((bx a).add 2) [(iv p)] 0 T fun h => ldI h ((bx a).add 0) fun U => ldI h ((bx a).add 1) fun V => ldI h ((bx a).add 2) fun W => ldI h ((bx a).add 3) fun X => qa5 (bx b) [(iv U), (iv V), (iv W), (iv X)] 0 h fun i => ldI i ((bx b).add 0) fun Y => ldI i ((bx b).add 1) fun Z => ldI i ((bx b).add 2) fun a0 => ldI i ((bx b).add 3) fun a1 => K (.agg #[(iv Y), (iv Z), (iv a0), (iv a1)]) i)) (Cl 67 #[(.pointer (some d)), (iv 4)] c fun a2 a3 => (∃ (q : Int), a2 = (iv q) ∧ qa5 ((bx a).add 2) [(iv q)] 0 a3 fun a4 => Cl 67 #[(.pointer (some d)), (iv 4)] a4 fun a5 a6 => (∃ (r : Int), a5 = (iv r) ∧ qa5 ((bx a).add 3) [(iv r)] 0 a6 fun j => ldI j ((bx a).add 0) fun a7 => ldI j ((bx a).add 1) fun a8 => ldI j ((bx a).add 2) fun a9 => ldI j ((bx a).add 3) fun aa => qa5 (bx b) [(iv a7), (iv a8), (iv a9), (iv aa)] 0 j fun k => ldI k ((bx b).add 0) fun ab => ldI k ((bx b).add 1) fun ac => ldI k ((bx b).add 2) fun ad => ldI k ((bx b).add 3) fun ae => K (.agg #[(iv ab), (iv ac), (iv ad), (iv ae)]) k)))))))

def qaG.ann : Ann := (.seq .l (.seq .l (.seq (.seq .l (.one (.seq .l (.two .l (.seq .l (.two .l (.seq .l (.two .l (.seq .l .l))))))))) (.seq .l .l))))

theorem qaG.con {p : D.Cur} {y K : Nat} {G : OA} {r : D.Ins × D.Cur} {w : World} (hp : M.qeX p) (I : r = M.qaG p) (d : Blk w y 129 #[(sv G p.b.length K), (iv p.i), (iv p.h)]) (A : Row el5 w G p.b) (B : p.b.length ≤ K) (l : p.b ≠ [] → ∀ g, InB G g → ¬ (fun C => C = y) g) :
    Cl 143 #[(.pointer (some (bx y)))] w (fun v_ w_ => v_ = (.agg (iC r.1)) ∧ Blk w_ y 129 #[(sv G r.2.b.length K), (iv r.2.i), (iv r.2.h)] ∧ r.2.b = p.b ∧ Chg (fun C => C = y) w w_) := by
 have H := wp.qaG.math p hp
 have f := Chg.refl (fun C => C = y) w
 refine begK mixed Tryz.f143 ann (vc (bx y)) ?_
 unfold vc
 unfold wp.qaG at H
 refine qaL (fun ap aq z P3 a0 => ?_)
 have q := d.ne z
 have d := d.ext a0
 have z := Nat.le_trans f.size z
 have f := f.then a0
 obtain ⟨a7, H⟩ := H
 obtain ⟨s, a8, H⟩ := qaa H
 refine (qa0.con a7 a8 d (A.chgS f l) B (fun m => (fun g j n => l m g j n))).mono ?_
 rintro _ ar ⟨rfl, k, a9, a1⟩
 simp only [bC, wC, a9] at k
 have f := f.chg a1 (fun g j => Or.inr j)
 have d := k
 refine ⟨s.1, rfl, ?_⟩
 obtain ⟨aa, H⟩ := H
 obtain ⟨t, ab, H⟩ := qaa H
 refine (qa0.con aa ab d (A.chgS f l) B (fun m => (fun g j n => l m g j n))).mono ?_
 rintro _ au ⟨rfl, k, ac, a2⟩
 simp only [bC, wC, ac] at k
 have c := (P3.chgS a1 ((q).symm)).chgS a2 ((q).symm)
 have f := f.chg a2 (fun g j => Or.inr j)
 have d := k
 refine ⟨t.1, rfl, ?_⟩
 refine qaL (fun av aw u E L => ?_)
 have v := d.ne u
 have F := c.ne u
 have d := d.ext L
 have c := c.ext L
 have e := E
 have u := Nat.le_trans f.size u
 refine stB e 0 #[(iv (wrap .i64 (1 + s.1))), (iv t.1), (iv 0), (iv 0)] (fun ax E N => ?_)
 have x := d.chg N v
 have O := c.chg N F
 have d := x
 have c := O
 have f := (f.then L).chgb N (Or.inl u)
 have e := E
 refine ⟨_, (e.a 0), ?_⟩
 apply brc H<;>intro h H
 ·obtain ⟨ad, H⟩ := H
  obtain ⟨P, ae, H⟩ := qaa H
  refine (qa0.con ad ae d (A.chgS f l) B (fun m => (fun g j n => l m g j n))).mono ?_
  rintro _ ay ⟨rfl, k, af, Q⟩
  simp only [bC, wC, af] at k
  have e := e.chgS Q ((v).symm)
  have d := k
  refine ⟨P.1, rfl, ?_⟩
  refine qda e (o := 2) (cs' := #[(iv (wrap .i64 (1 + s.1))), (iv t.1), (iv P.1), (iv 0)]) rfl rfl (Nat.le_of_ble_eq_true rfl) rfl (fun az e R => ?_)
  have x := d.chg R v
  have c := (c.chgS Q ((q).symm)).chg R F
  refine ⟨_, (e.a 0), _, (e.a 1), _, (e.a 2), _, (e.a 3), ?_⟩
  refine qda c (o := 0) (cs' := #[(iv (wrap .i64 (1 + s.1))), (iv t.1), (iv P.1), (iv 0)]) rfl rfl (Nat.le_of_ble_eq_true rfl) rfl (fun aA c a3 => ?_)
  have d := x.chg a3 q
  have f := ((f.chg Q (fun g j => Or.inr j)).chgb R (Or.inl u)).chgb a3 (Or.inl z)
  refine ⟨_, (c.a 0), _, (c.a 1), _, (c.a 2), _, (c.a 3), ?_⟩
  cases I.trans H.symm
  exact ⟨rfl, d, rfl, f⟩
 apply brc H<;>intro h H
 ·refine ⟨_, (e.a 0), _, (e.a 1), _, (e.a 2), _, (e.a 3), ?_⟩
  refine qda c (o := 0) (cs' := #[(iv (wrap .i64 (1 + s.1))), (iv t.1), (iv 0), (iv 0)]) rfl rfl (Nat.le_of_ble_eq_true rfl) rfl (fun aB c a4 => ?_)
  have d := d.chg a4 q
  have f := f.chgb a4 (Or.inl z)
  refine ⟨_, (c.a 0), _, (c.a 1), _, (c.a 2), _, (c.a 3), ?_⟩
  cases I.trans H.symm
  exact ⟨rfl, d, rfl, f⟩
 apply brc H<;>intro h H
 ·obtain ⟨ag, H⟩ := H
  obtain ⟨S, ah, H⟩ := qaa H
  refine (qa0.con ag ah d (A.chgS f l) B (fun m => (fun g j n => l m g j n))).mono ?_
  rintro _ aC ⟨rfl, k, ai, T⟩
  simp only [bC, wC, ai] at k
  have e := e.chgS T ((v).symm)
  have d := k
  refine ⟨S.1, rfl, ?_⟩
  refine qda e (o := 2) (cs' := #[(iv (wrap .i64 (1 + s.1))), (iv t.1), (iv S.1), (iv 0)]) rfl rfl (Nat.le_of_ble_eq_true rfl) rfl (fun aD e U => ?_)
  have x := d.chg U v
  have c := (c.chgS T ((q).symm)).chg U F
  refine ⟨_, (e.a 0), _, (e.a 1), _, (e.a 2), _, (e.a 3), ?_⟩
  refine qda c (o := 0) (cs' := #[(iv (wrap .i64 (1 + s.1))), (iv t.1), (iv S.1), (iv 0)]) rfl rfl (Nat.le_of_ble_eq_true rfl) rfl (fun aE c a5 => ?_)
  have d := x.chg a5 q
  have f := ((f.chg T (fun g j => Or.inr j)).chgb U (Or.inl u)).chgb a5 (Or.inl z)
  refine ⟨_, (c.a 0), _, (c.a 1), _, (c.a 2), _, (c.a 3), ?_⟩
  cases I.trans H.symm
  exact ⟨rfl, d, rfl, f⟩
 obtain ⟨aj, H⟩ := H
 obtain ⟨J, ak, H⟩ := qaa H
 refine (qa0.con aj ak d (A.chgS f l) B (fun m => (fun g j n => l m g j n))).mono ?_
 rintro _ w64 ⟨rfl, k, al, V⟩
 simp only [bC, wC, al] at k
 have c := c.chgS V ((q).symm)
 have e := e.chgS V ((v).symm)
 have d := k
 refine ⟨J.1, rfl, ?_⟩
 refine stB e 2 #[(iv (wrap .i64 (1 + s.1))), (iv t.1), (iv J.1), (iv 0)] (fun aF E W => ?_)
 have x := d.chg W v
 have O := c.chg W F
 have d := x
 have f := (f.chg V (fun g j => Or.inr j)).chgb W (Or.inl u)
 obtain ⟨am, H⟩ := H
 obtain ⟨X, an, H⟩ := qaa H
 refine (qa0.con am an d (A.chgS f l) B (fun m => (fun g j n => l m g j n))).mono ?_
 rintro _ aG ⟨rfl, k, ao, Y⟩
 simp only [bC, wC, ao] at k
 have e := E.chgS Y ((v).symm)
 have d := k
 refine ⟨X.1, rfl, ?_⟩
 refine qda e (o := 3) (cs' := #[(iv (wrap .i64 (1 + s.1))), (iv t.1), (iv J.1), (iv X.1)]) rfl rfl (Nat.le_of_ble_eq_true rfl) rfl (fun aH e Z => ?_)
 have x := d.chg Z v
 have c := (O.chgS Y ((q).symm)).chg Z F
 refine ⟨_, (e.a 0), _, (e.a 1), _, (e.a 2), _, (e.a 3), ?_⟩
 refine qda c (o := 0) (cs' := #[(iv (wrap .i64 (1 + s.1))), (iv t.1), (iv J.1), (iv X.1)]) rfl rfl (Nat.le_of_ble_eq_true rfl) rfl (fun aI c a6 => ?_)
 have d := x.chg a6 q
 have f := ((f.chg Y (fun g j => Or.inr j)).chgb Z (Or.inl u)).chgb a6 (Or.inl z)
 refine ⟨_, (c.a 0), _, (c.a 1), _, (c.a 2), _, (c.a 3), ?_⟩
 cases I.trans H.symm
 exact ⟨rfl, d, rfl, f⟩
def qbZ.vc (a : Addr) (w : World) (K : VK) : Prop :=
  Cl 67 #[(.pointer (some a)), (iv 9)] w fun h i => (∃ (b : Int), h = (iv b) ∧ Cl 67 #[(.pointer (some a)), (iv 9000)] i fun j k => (∃ (c : Int), j = (iv c) ∧ Run Tryz.prog (Instr.buildSlice 24 9 #[(0, (iv 0)), (1, (iv 1)), (2, (iv 2)), (3, (iv 7)), (4, (iv 100)), (5, (iv 65535)), (6, (iv 32768)), (7, (iv b)), (8, (iv c))]) k fun l m => ∃ (d : OA) (e f : Nat), l = .slice d e f ∧ Cl 140 #[(.pointer (some a)), (sv d e f)] m fun n o => (∃ (g : Int), n = (iv g) ∧ K (iv g) o)))

def qbZ.ann : Ann := (.seq .l (.seq .l .l))

theorem qbZ.con {d : D.Cur} {j p : Nat} {o : OA} {r : Int × D.Cur} {w : World} (A : M.qgy d) (B : r = M.qbZ d) (e : Blk w j 129 #[(sv o d.b.length p), (iv d.i), (iv d.h)]) (q : Row el5 w o d.b) (s : d.b.length ≤ p) (k : d.b ≠ [] → ∀ g, InB o g → ¬ (fun l => l = j) g) :
    Cl 162 #[(.pointer (some (bx j)))] w (fun C t => C = (iv r.1) ∧ Blk t j 129 #[(sv o r.2.b.length p), (iv r.2.i), (iv r.2.h)] ∧ r.2.b = d.b ∧ Chg (fun l => l = j) w t) := by
 have H := wp.qbZ.math d A
 have a := Chg.refl (fun l => l = j) w
 refine begK mixed Tryz.f162 ann (vc (bx j)) ?_
 unfold vc
 unfold wp.qbZ at H
 obtain ⟨E, H⟩ := H
 obtain ⟨u, F, H⟩ := qaa H
 refine (qa0.con E F e (q.chgS a k) s (fun m => (fun g c n => k m g c n))).mono ?_
 rintro _ U ⟨rfl, f, G, I⟩
 simp only [bC, wC, G] at f
 have a := a.chg I (fun g c => Or.inr c)
 have e := f
 refine ⟨u.1, rfl, ?_⟩
 obtain ⟨J, H⟩ := H
 obtain ⟨v, K, H⟩ := qaa H
 refine (qa0.con J K e (q.chgS a k) s (fun m => (fun g c n => k m g c n))).mono ?_
 rintro _ V ⟨rfl, f, L, N⟩
 simp only [bC, wC, L] at f
 have a := a.chg N (fun g c => Or.inr c)
 have e := f
 refine ⟨v.1, rfl, ?_⟩
 refine qaz el3 ([0, 1, 2, 7, 100, 65535, 32768, u.1, v.1] : List Int) (fun _ => by kernel_rfl) rfl (fun W X x y => ?_)
 have O := x.qap e.lt
 have e := e.ext y
 have z := x.mono a.size
 have a := a.then y
 obtain ⟨P, H⟩ := H
 obtain ⟨Q, R, H⟩ := qaa H
 refine (cllA (qau.con P R e (q.chgS a k) s z.row z.le (fun m => (fun g c n => k m g c n)) (fun _ => (qbT O)))).mono ?_
 rintro _ Y ⟨rfl, f, S, T⟩
 simp only [bC, wC, S] at f
 have a := a.chg T (fun g c => Or.inr c)
 have e := f
 refine ⟨Q.1, rfl, ?_⟩
 cases B.trans H.symm
 exact ⟨rfl, e, rfl, a⟩
def qbu.vc (m : Addr) (n : Int) (w : World) (K : VK) : Prop :=
  Run Tryz.prog (Instr.buildSlice 24 0 #[]) w fun o p => ∃ (b : OA) (c d : Nat), o = .slice b c d ∧ qdh (σ := (OA × Nat × Nat) × Int × Unit) (fun a e q => qa1 (decide (a.2.1 < n)) (Cl 162 #[(.pointer (some m))] e fun r s => (∃ (f : Int), r = (iv f) ∧ Run Tryz.prog (Instr.buildSlice 24 1 #[(0, (iv f))]) s fun t u => ∃ (g : OA) (h i : Nat), t = .slice g h i ∧ Run Tryz.prog (Builtin.append_ #[24, 24] 24 #[(sv a.1.1 a.1.2.1 a.1.2.2), (sv g h i)]) u fun v x => ∃ (j : OA) (k l : Nat), v = .slice j k l ∧ q ((j, k, l), (wrap .i64 (a.2.1 + 1)), ()) x)) (K (sv a.1.1 a.1.2.1 a.1.2.2) e)) ((b, c, d), 0, ()) p

def qbu.ann : Ann := (.seq .l (.seq .l (.seq (.seq .l (.one (.loop [(5, .sl), (6, .int .i64)] (.seq (.seq .l (.two .l .l)) (.seq (.one .l) .l))))) (.seq .l .l))))

theorem qbu.con {c : D.Cur} {f o : Nat} {l : OA} {m : Int} {r : (List Int) × D.Cur} {w : World} (K : M.qg5 c m) (L : r = M.qbu c m) (d : Blk w f 129 #[(sv l c.b.length o), (iv c.i), (iv c.h)]) (N : Row el5 w l c.b) (O : c.b.length ≤ o) (y : c.b ≠ [] → ∀ g, InB l g → ¬ (fun j => j = f) g) :
    Cl 117 #[(.pointer (some (bx f))), (iv m)] w (fun P k => ∃ (z : OA) (A : Nat), P = (sv z r.1.length A) ∧ Own el3 k w.heap.size z A r.1 ∧ Blk k f 129 #[(sv l r.2.b.length o), (iv r.2.i), (iv r.2.h)] ∧ r.2.b = c.b ∧ Chg (fun j => j = f) w k) := by
 have H := wp.qbu.math c m K
 have a := Chg.refl (fun j => j = f) w
 refine begK mixed Tryz.f117 ann (vc (bx f) m) ?_
 unfold vc
 unfold wp.qbu at H
 refine qaz el3 ([] : List Int) (fun _ => by kernel_rfl) rfl (fun Q aa R B => ?_)
 have d := d.ext B
 have S := R.mono a.size
 have a := a.then B
 obtain ⟨T, ⟨U, V⟩, C⟩ := H
 refine ⟨fun W X k => ∃ (p : List Int) (t u v : Int) (q : OA) (s : Nat), X = ((q, p.length, s), t, ()) ∧ T W (p, t, u, v, ()) ∧ Chg (fun j => j = f) w k ∧ Own el3 k w.heap.size q s p ∧ Blk k f 129 #[(sv l c.b.length o), (iv u), (iv v)], ⟨U, ([] : List Int), 0, c.i, c.h, Q, 0, rfl, V, a, S, d⟩, ?_⟩
 rintro Y _ ab ⟨p, t, u, v, q, s, rfl, E, a, e, d⟩
 have H := C Y _ E
 clear C E
 try dsimp only at H ⊢
 apply brc H<;>intro h H
 ·obtain ⟨Z, H⟩ := H
  obtain ⟨F, a0, H⟩ := qaa H
  refine (qbZ.con Z a0 d (N.chgS a y) O (fun a1 => (fun g n a2 => y a1 g n a2))).mono ?_
  rintro _ ac ⟨rfl, G, a3, I⟩
  simp only [bC, wC, a3] at G
  have e := e.chgS I (qbT (e.qa3 d (by decide)))
  have a := a.chg I (fun g n => Or.inr n)
  refine ⟨F.1, rfl, ?_⟩
  refine qaz el3 ([F.1] : List Int) (fun _ => by kernel_rfl) rfl (fun ad ae P7 x => ?_)
  have d := G.ext x
  have e := e.ext x
  have O7 := P7.mono a.size
  have a := a.then x
  obtain ⟨a4, H⟩ := H
  refine appO qgO e O7.row a.size a4 (fun a5 a6 af P6 J => ?_)
  have d := d.app J (e.qa3 d (by decide))
  have a := a.app J (fun g n => Or.inl (e.low g n))
  have e := P6
  obtain ⟨a7, a8, a9⟩ := H
  exact ⟨a7, a8, _, _, _, _, a5, a6, rfl, a9, a, e, d⟩
 cases L.trans H.symm
 exact ⟨q, s, rfl, e, d, rfl, a⟩
def qbq.vc (n : OA) (o p : Nat) (w : World) (K : VK) : Prop :=
  Cl 59 #[(sv n o p)] w fun q r => (∃ (b : Addr), q = (.pointer (some b)) ∧ Run Tryz.prog (Instr.buildSlice 24 0 #[]) r fun s t => ∃ (c : OA) (d e : Nat), s = .slice c d e ∧ qdh (σ := (OA × Nat × Nat) × Int × Unit) (fun a f u => qa1 (decide (a.2.1 < 12)) (Cl 67 #[(.pointer (some b)), (iv 10000)] f fun v x => (∃ (g : Int), v = (iv g) ∧ Run Tryz.prog (Instr.buildSlice 24 1 #[(0, (iv g))]) x fun y z => ∃ (h : OA) (i j : Nat), y = .slice h i j ∧ Run Tryz.prog (Builtin.append_ #[24, 24] 24 #[(sv a.1.1 a.1.2.1 a.1.2.2), (sv h i j)]) z fun A B => ∃ (k : OA) (l m : Nat), A = .slice k l m ∧ u ((k, l, m), (wrap .i64 (a.2.1 + 1)), ()) B)) (K (sv a.1.1 a.1.2.1 a.1.2.2) f)) ((c, d, e), 0, ()) t)

def qbq.ann : Ann := (.seq .l (.seq .l (.seq .l (.seq (.seq .l (.one (.loop [(4, .sl), (5, .int .i64)] (.seq (.seq .l (.two .l .l)) (.seq (.one .l) .l))))) (.seq .l .l)))))

theorem qbq.con {d r : List Int} {f : OA} {j : Nat} {w : World} (I : M.qfr d) (J : r = M.qbq d) (o : Row el5 w f d) (u : d.length ≤ j) :
    Cl 27 #[(sv f d.length j)] w (fun K e => ∃ (v : OA) (x : Nat), K = (sv v r.length x) ∧ Own el3 e w.heap.size v x r ∧ Ext w e) := by
 have H := wp.qbq.math d I
 have a := Ext.refl w
 refine begK mixed Tryz.f27 ann (vc f d.length j) ?_
 unfold vc
 unfold wp.qbq at H
 obtain ⟨L, H⟩ := H
 obtain ⟨y, N, H⟩ := qaa H
 refine (qb9.con L N (o.ext a) u).mono ?_
 rintro _ aa ⟨z, rfl, b, O, k, P⟩
 simp only [bC, wC, O] at b
 have k := Nat.le_trans a.size k
 have a := qa6 a P
 refine ⟨(bx z), rfl, ?_⟩
 refine qaz el3 ([] : List Int) (fun _ => by kernel_rfl) rfl (fun Q ab R A => ?_)
 have b := b.ext A
 have S := R.mono a.size
 have a := qa6 a A
 obtain ⟨T, ⟨U, V⟩, B⟩ := H
 refine ⟨fun W X e => ∃ (l : List Int) (p q s : Int) (m : OA) (n : Nat), X = ((m, l.length, n), p, ()) ∧ T W (l, p, q, s, ()) ∧ Ext w e ∧ Own el3 e w.heap.size m n l ∧ Blk e z 129 #[(sv f d.length j), (iv q), (iv s)], ⟨U, ([] : List Int), 0, y.i, y.h, Q, 0, rfl, V, a, S, b⟩, ?_⟩
 rintro Y _ ac ⟨l, p, q, s, m, n, rfl, C, a, c, b⟩
 have H := B Y _ C
 clear B C
 try dsimp only at H ⊢
 apply brc H<;>intro h H
 ·obtain ⟨Z, H⟩ := H
  obtain ⟨D, a0, H⟩ := qaa H
  refine (qa0.con Z a0 b (o.ext a) u (fun a1 => (fun g h_ a2 => Nat.not_le.2 (o.old a1 g h_) (qgv k _ a2)))).mono ?_
  rintro _ ad ⟨rfl, E, a3, F⟩
  simp only [bC, wC, a3] at E
  have c := c.chgS F (qbT (c.qa3 b (by decide)))
  have a := Chg.ext a F (qgv k)
  refine ⟨D.1, rfl, ?_⟩
  refine qaz el3 ([D.1] : List Int) (fun _ => by kernel_rfl) rfl (fun ae af P7 t => ?_)
  have b := E.ext t
  have c := c.ext t
  have O7 := P7.mono a.size
  have a := qa6 a t
  obtain ⟨a4, H⟩ := H
  refine appO qgO c O7.row a.size a4 (fun a5 a6 ag P6 G => ?_)
  have b := b.app G (c.qa3 b (by decide))
  have a := eapp a G c
  have c := P6
  obtain ⟨a7, a8, a9⟩ := H
  exact ⟨a7, a8, _, _, _, _, a5, a6, rfl, a9, a, c, b⟩
 cases J.trans H.symm
 exact ⟨m, n, rfl, c, a⟩
def qff.vc (b : OA) (a c : Nat) (w : World) (K : VK) : Prop :=
  K (.bool (decide (((a : Nat) : Int) > 1048576))) w

def qff.ann : Ann := (.seq .l (.seq .l .l))

theorem qff.con {a : List Int} {b : OA} {c : Nat} {r : Bool} {w : World} (d : r = M.qff a) (h : Row el5 w b a) (i : a.length ≤ c) :
    Cl 18 #[(sv b a.length c)] w (fun e f => e = (.bool r) ∧ Ext w f) := by
 have H := wp.qff.math a
 have g := Ext.refl w
 refine begK mixed Tryz.f18 ann (vc b a.length c) ?_
 unfold vc
 unfold wp.qff at H
 cases d.trans H.symm
 exact ⟨rfl, g⟩
def qbV.vc (b : Int) (w : World) (K : VK) : Prop :=
  Cl 78 #[(iv b), (iv 1), (iv 3)] w fun c d => (∃ (a : Bool), c = (.bool a) ∧ K (.bool a) d)

def qbV.ann : Ann := (.seq .l (.seq .l .l))

theorem qbV.con {a : Int} {r : Bool} {w : World} (b : r = M.qbV a)  :
    Cl 76 #[(iv a)] w (fun c d => c = (.bool r) ∧ Ext w d) := by
 have H := wp.qbV.math a
 refine begK mixed Tryz.f76 ann (vc a) ?_
 unfold vc
 unfold wp.qbV at H
 obtain ⟨e, f, H⟩ := qaa H
 refine (qar.con f ).mono ?_
 rintro _ i ⟨rfl, g⟩
 have h := qa6 (Ext.refl w) g
 refine ⟨e, rfl, ?_⟩
 cases b.trans H.symm
 exact ⟨rfl, h⟩
def qbm.vc (c : OA) (a d : Nat) (w : World) (K : VK) : Prop :=
  qa1 (((a : Nat) : Int) == 32) (Cl 136 #[(sv c a d)] w fun e f => (∃ (b : Bool), e = (.bool b) ∧ K (.bool b) f)) (K (.bool false) w)

def qbm.ann : Ann := (.seq .l (.seq .l .l))

theorem qbm.con {a : List Int} {c : OA} {d : Nat} {r : Bool} {w : World} (f : M.qfW a) (e : r = M.qbm a) (g : Row el3 w c a) (i : a.length ≤ d) :
    Cl 77 #[(sv c a.length d)] w (fun j k => j = (.bool r) ∧ Ext w k) := by
 have H := wp.qbm.math a f
 have b := Ext.refl w
 refine begK mixed Tryz.f77 ann (vc c a.length d) ?_
 unfold vc
 unfold wp.qbm at H
 apply brc H<;>intro h H
 ·obtain ⟨l, H⟩ := H
  obtain ⟨m, n, H⟩ := qaa H
  refine (qbX.con l n (g.ext b) i).mono ?_
  rintro _ p ⟨rfl, o⟩
  have b := qa6 b o
  refine ⟨m, rfl, ?_⟩
  cases e.trans H.symm
  exact ⟨rfl, b⟩
 cases e.trans H.symm
 exact ⟨rfl, b⟩
def qch.vc (b : OA) (a c : Nat) (w : World) (K : VK) : Prop :=
  K (.bool (((a : Nat) : Int) == 32)) w

def qch.ann : Ann := (.seq .l (.seq .l .l))

theorem qch.con {a : List Int} {b : OA} {c : Nat} {r : Bool} {w : World} (d : r = M.qch a) (h : Row el3 w b a) (i : a.length ≤ c) :
    Cl 138 #[(sv b a.length c)] w (fun e f => e = (.bool r) ∧ Ext w f) := by
 have H := wp.qch.math a
 have g := Ext.refl w
 refine begK mixed Tryz.f138 ann (vc b a.length c) ?_
 unfold vc
 unfold wp.qch at H
 cases d.trans H.symm
 exact ⟨rfl, g⟩
def qcb.vc (f : OA) (a Q : Nat) (g : Int) (w : World) (K : VK) : Prop :=
  qdh (σ := Int × Unit) (fun d c r => qa1 (decide (d.1 < ((a : Nat) : Int))) ((idx d.1 a f fun j => ldI c ((j.add ((d.1.toNat) * 3)).add 0) fun s => ldI c ((j.add ((d.1.toNat) * 3)).add 1) fun t => ldI c ((j.add ((d.1.toNat) * 3)).add 2) fun u => newK c (.cells #[(iv 0), (iv 0), (iv 0)] 91) fun e v => qa5 (bx e) [(iv s), (iv t), (iv u)] 0 v fun n => ldI n (((bx e).add 0).add 0) fun x => Cl 78 #[(iv x), (iv 0), (iv g)] n fun y k => (∃ (o : Bool), y = (.bool o) ∧ qa1 (!o) (K (.bool false) k) (ldI k (((bx e).add 1).add 0) fun z => Cl 78 #[(iv z), (iv 0), (iv g)] k fun A l => (∃ (p : Bool), A = (.bool p) ∧ qa1 (!p) (K (.bool false) l) (ldI l (((bx e).add 2).add 0) fun B => Cl 179 #[(iv B)] l fun C h => (∃ (q : Bool), C = (.bool q) ∧ qa1 (!q) (K (.bool false) h) (ldI h (((bx e).add 2).add 0) fun D => qa1 (D == 0) (K (.bool false) h) (r ((wrap .i64 (d.1 + 1)), ()) h))))))))) (qa1 (((a : Nat) : Int) == 0) (K (.bool true) c) ((idx (wrap .i64 (((a : Nat) : Int) - 1)) a f fun m => ldI c ((m.add (((wrap .i64 (((a : Nat) : Int) - 1)).toNat) * 3)).add 0) fun E => ldI c ((m.add (((wrap .i64 (((a : Nat) : Int) - 1)).toNat) * 3)).add 1) fun F => ldI c ((m.add (((wrap .i64 (((a : Nat) : Int) - 1)).toNat) * 3)).add 2) fun G => newK c (.cells #[(iv 0), (iv 0), (iv 0)] 91) fun i H => qa5 (bx i) [(iv E), (iv F), (iv G)] 0 H fun b => qa1 (decide (((a : Nat) : Int) ≤ 24)) (ldI b (((bx i).add 0).add 0) fun I => ldI b (((bx i).add 1).add 0) fun J => qa1 (I != J) (ldI b (((bx i).add 0).add 0) fun L => qa1 (L != g) ((idx 0 a f fun M => ldI b (((M.add (((0 : Int).toNat) * 3)).add 1).add 0) fun N => qa1 (N == g) ((idx 0 a f fun O => ldI b (((O.add (((0 : Int).toNat) * 3)).add 2).add 0) fun P => K (.bool (P == 255)) b)) (K (.bool false) b))) (K (.bool false) b)) (K (.bool false) b)) (K (.bool false) b))))) (0, ()) w

def qcb.ann : Ann := (.seq .l (.seq (.seq .l (.one (.loop [(10, .int .i64)] (.seq .l (.seq (.two .l .l) (.seq (.one (.seq .l (.seq .l (.two (.seq .l .l) .l)))) .l)))))) (.seq (.seq .l (.two (.seq .l .l) .l)) (.seq .l (.seq .l .l)))))

theorem qcb.con {c : List D.Frame} {j : OA} {k : Nat} {g : Int} {r : Bool} {w : World} (F : M.qfy c g) (d : r = M.qcb c g) (i : Row el91 w j c) (aa : c.length ≤ k) :
    Cl 139 #[(sv j c.length k), (iv g)] w (fun G l => G = (.bool r) ∧ Ext w l) := by
 have H := wp.qcb.math c g F
 have b := Ext.refl w
 refine begK mixed Tryz.f139 ann (vc j c.length k g) ?_
 unfold vc
 unfold wp.qcb at H
 obtain ⟨I, ⟨J, K⟩, p⟩ := H
 refine ⟨fun L N l => ∃ (f : Int), N = (f, ()) ∧ I L (f, ()) ∧ Ext w l, ⟨J, 0, rfl, K, b⟩, ?_⟩
 rintro O _ ab ⟨f, rfl, q, b⟩
 have H := p O _ q
 clear p q
 try dsimp only at H ⊢
 apply brc H<;>intro h H
 ·obtain ⟨⟨s, t⟩, H⟩ := H
  obtain ⟨P, Q, m⟩ := Row.at (i.ext b) s t
  refine ⟨s, t, P, Q, _, (m 0 _ rfl), _, (m 1 _ rfl), _, (m 2 _ rfl), ?_⟩
  refine qid #[(iv ((rd c f).Pc)), (iv ((rd c f).Stop)), (iv ((rd c f).Mask))] (fun ac ad L2 e R => ?_)
  refine ⟨_, (e.a 0), ?_⟩
  obtain ⟨S, T, H⟩ := qaa H
  refine (qar.con T ).mono ?_
  rintro _ ae ⟨rfl, u⟩
  have e := e.ext u
  have b := qa6 (qa6 b R) u
  refine ⟨S, rfl, ?_⟩
  apply brc H<;>intro h H
  ·cases d.trans H.symm
   exact ⟨rfl, b⟩
  refine ⟨_, (e.a 1), ?_⟩
  obtain ⟨U, V, H⟩ := qaa H
  refine (qar.con V ).mono ?_
  rintro _ af ⟨rfl, v⟩
  have e := e.ext v
  have b := qa6 b v
  refine ⟨U, rfl, ?_⟩
  apply brc H<;>intro h H
  ·cases d.trans H.symm
   exact ⟨rfl, b⟩
  refine ⟨_, (e.a 2), ?_⟩
  obtain ⟨W, X, H⟩ := qaa H
  refine (qdl.con X ).mono ?_
  rintro _ ag ⟨rfl, x⟩
  have e := e.ext x
  have b := qa6 b x
  refine ⟨W, rfl, ?_⟩
  apply brc H<;>intro h H
  ·cases d.trans H.symm
   exact ⟨rfl, b⟩
  refine ⟨_, (e.a 2), ?_⟩
  apply brc H<;>intro h H
  ·cases d.trans H.symm
   exact ⟨rfl, b⟩
  obtain ⟨Y, Z, a0⟩ := H
  exact ⟨Y, Z, _, rfl, a0, b⟩
 apply brc H<;>intro h H
 ·cases d.trans H.symm
  exact ⟨rfl, b⟩
 obtain ⟨⟨y, z⟩, H⟩ := H
 obtain ⟨a1, a2, n⟩ := Row.at (i.ext b) y z
 refine ⟨y, z, a1, a2, _, (n 0 _ rfl), _, (n 1 _ rfl), _, (n 2 _ rfl), ?_⟩
 refine qid #[(iv ((rd c (wrap .i64 ((c.length : Int) - 1))).Pc)), (iv ((rd c (wrap .i64 ((c.length : Int) - 1))).Stop)), (iv ((rd c (wrap .i64 ((c.length : Int) - 1))).Mask))] (fun ah ai L3 o a3 => ?_)
 have b := qa6 b a3
 apply brc H<;>intro h H
 ·refine ⟨_, (o.a 0), _, (o.a 1), ?_⟩
  apply brc H<;>intro h H
  ·refine ⟨_, (o.a 0), ?_⟩
   apply brc H<;>intro h H
   ·obtain ⟨⟨A, B⟩, H⟩ := H
    obtain ⟨a4, a5, a6⟩ := Row.at (i.ext b) A B
    refine ⟨A, B, a4, a5, _, (a6 1 _ rfl), ?_⟩
    apply brc H<;>intro h H
    ·obtain ⟨⟨C, E⟩, H⟩ := H
     obtain ⟨a7, a8, a9⟩ := Row.at (i.ext b) C E
     refine ⟨C, E, a7, a8, _, (a9 2 _ rfl), ?_⟩
     cases d.trans H.symm
     exact ⟨rfl, b⟩
    cases d.trans H.symm
    exact ⟨rfl, b⟩
   cases d.trans H.symm
   exact ⟨rfl, b⟩
  cases d.trans H.symm
  exact ⟨rfl, b⟩
 cases d.trans H.symm
 exact ⟨rfl, b⟩
def qcK.vc (H : OA) (j I : Nat) (k : Int) (l : OA) (m n : Nat) (o : OA) (p q : Nat) (w : World) (K : VK) : Prop :=
  newK w (.cells #[(iv k), (sv l m n), (sv o p q)] 52) fun a e => ldI e (((bx a).add 0).add 0) fun r => Cl 137 #[(iv r)] e fun s b => (∃ (f : Bool), s = (.bool f) ∧ qa1 f (ldS b (((bx a).add 2).add 0) fun t u v => Cl 138 #[(sv t u v)] b fun x c => (∃ (g : Bool), x = (.bool g) ∧ qa1 g (ldS c (((bx a).add 2).add 0) fun y z A => Cl 136 #[(sv y z A)] c fun B d => (∃ (h : Bool), B = (.bool h) ∧ qa1 h (ldS d (((bx a).add 1).add 0) fun C D E => Cl 139 #[(sv C D E), (iv ((j : Nat) : Int))] d fun F G => (∃ (i : Bool), F = (.bool i) ∧ K (.bool i) G)) (K (.bool false) d))) (K (.bool false) c))) (K (.bool false) b))

def qcK.ann : Ann := (.seq .l (.seq .l .l))

theorem qcK.con {e : List D.Ins} {g i j : OA} {k l m : Nat} {c : D.Warp} {r : Bool} {w : World} (t : M.qfY e c) (f : r = M.qcK e c) (O : Row el84 w g e) (P : e.length ≤ k) (u : Row el91 w i c.Frames) (v : c.Frames.length ≤ l) (n : Row el3 w j c.Regs) (o : c.Regs.length ≤ m) :
    Cl 79 #[(sv g e.length k), (.agg (wC i l j m c))] w (fun x y => x = (.bool r) ∧ Ext w y) := by
 have H := wp.qcK.math e c t
 refine begK mixed Tryz.f79 ann (vc g e.length k c.Number i c.Frames.length l j c.Regs.length m) ?_
 unfold vc
 unfold wp.qcK at H
 refine qaL (fun Q R S d z => ?_)
 refine ⟨_, (d.a 0), ?_⟩
 obtain ⟨A, B, H⟩ := qaa H
 refine (qbD.con B ).mono ?_
 rintro _ T ⟨rfl, p⟩
 have d := d.ext p
 have b := qa6 (qa6 (Ext.refl w) z) p
 refine ⟨A, rfl, ?_⟩
 apply brc H<;>intro h H
 ·refine ⟨_, _, _, (d.a 2), ?_⟩
  obtain ⟨C, E, H⟩ := qaa H
  refine (qch.con E (n.ext b) o).mono ?_
  rintro _ U ⟨rfl, q⟩
  have d := d.ext q
  have b := qa6 b q
  refine ⟨C, rfl, ?_⟩
  apply brc H<;>intro h H
  ·refine ⟨_, _, _, (d.a 2), ?_⟩
   obtain ⟨F, H⟩ := H
   obtain ⟨G, I, H⟩ := qaa H
   refine (qbX.con F I (n.ext b) o).mono ?_
   rintro _ V ⟨rfl, s⟩
   have d := d.ext s
   have b := qa6 b s
   refine ⟨G, rfl, ?_⟩
   apply brc H<;>intro h H
   ·refine ⟨_, _, _, (d.a 1), ?_⟩
    obtain ⟨J, H⟩ := H
    obtain ⟨K, L, H⟩ := qaa H
    refine (qcb.con J L (u.ext b) v).mono ?_
    rintro _ W ⟨rfl, N⟩
    have b := qa6 b N
    refine ⟨K, rfl, ?_⟩
    cases f.trans H.symm
    exact ⟨rfl, b⟩
   cases f.trans H.symm
   exact ⟨rfl, b⟩
  cases f.trans H.symm
  exact ⟨rfl, b⟩
 cases f.trans H.symm
 exact ⟨rfl, b⟩
def qcW.vc (x : OA) (y z : Nat) (A : OA) (B C : Nat) (D : OA) (E F : Nat) (G H : Int) (w : World) (K : VK) : Prop :=
  newK w (.cells (vB x y z A B C D E F G H) 33) fun c a => (∃ b : Nat → Prop, ldSM b a ((bx c).add 0) 0 fun I J L => Cl 75 #[(sv I J L)] a.drew fun M i => (∃ (n : Bool), M = (.bool n) ∧ qab b a i ∧ qa1 (!n) (K (.bool false) i) (ldSM b a ((bx c).add 1) 0 fun aj N ak => Cl 76 #[(iv ((N : Nat) : Int))] i fun O j => (∃ (o : Bool), O = (.bool o) ∧ qab b a j ∧ qa1 (!o) (K (.bool false) j) (ldSM b a ((bx c).add 2) 0 fun P Q R => Cl 77 #[(sv P Q R)] j fun S k => (∃ (p : Bool), S = (.bool p) ∧ qab b a k ∧ qa1 (!p) (K (.bool false) k) (ldIM b a ((bx c).add 3) 0 fun T => ldSM b a ((bx c).add 1) 0 fun al q am => ((0 : Int) ≤ ((q : Nat) : Int) ∧ Cl 78 #[(iv T), (iv 0), (iv (wrap .i64 ((wrap .i64 (1 * 2 ^ (min (((q : Nat) : Int).toNat) (IntKind.bits .i64)))) - 2)))] k fun U l => (∃ (r : Bool), U = (.bool r) ∧ qab b a l ∧ qa1 (!r) (K (.bool false) l) (ldIM b a ((bx c).add 4) 0 fun V => Cl 78 #[(iv V), (iv 0), (iv 100000)] l fun W h => (∃ (s : Bool), W = (.bool s) ∧ qab b a h ∧ qa1 (!s) (K (.bool false) h) (ldS h (((bx c).add 1).add 0) fun X t an => qdh (σ := Int × Unit) (fun d f Y => qa1 (decide (d.1 < ((t : Nat) : Int))) ((idx d.1 t X fun m => ldI f ((m.add ((d.1.toNat) * 3)).add 0) fun Z => ldS f ((m.add ((d.1.toNat) * 3)).add 1) fun a0 a1 a2 => ldS f ((m.add ((d.1.toNat) * 3)).add 2) fun a3 a4 a5 => newK f (.cells #[(iv 0), (sv none 0 0), (sv none 0 0)] 52) fun g a6 => qa5 (bx g) [(iv Z), (sv a0 a1 a2), (sv a3 a4 a5)] 0 a6 fun e => ldI e (((bx g).add 0).add 0) fun a7 => qa1 (a7 != d.1) (K (.bool false) e) (ldS e (((bx c).add 0).add 0) fun a8 a9 aa => ldI e ((bx g).add 0) fun ab => ldS e ((bx g).add 1) fun ac ad ae => ldS e ((bx g).add 2) fun af ag ah => Cl 79 #[(sv a8 a9 aa), (.agg #[(iv ab), (sv ac ad ae), (sv af ag ah)])] e fun ai u => (∃ (v : Bool), ai = (.bool v) ∧ qa1 (!v) (K (.bool false) u) (Y ((wrap .i64 (d.1 + 1)), ()) u))))) (K (.bool true) f)) (0, ()) h))))))))))))

def qcW.ann : Ann := (.seq .l (.seq (.seq .l (.two (.seq .l .l) .l)) (.seq (.seq .l (.one (.loop [(42, .int .i64)] (.seq .l (.seq (.two .l .l) (.seq (.one (.seq .l (.seq .l (.two (.seq .l .l) .l)))) .l)))))) (.seq .l .l))))

theorem qcW.con {d : D.Block} {k l m : OA} {n o p : Nat} {r : Bool} {w : World} (J : M.qfg d) (g : r = M.qcW d) (z : Row el84 w k d.Code) (A : d.Code.length ≤ n) (K : RowW 52 el91 el3 w l d.Warps) (au : d.Warps.length ≤ o) (L : Row el3 w m d.Memory) (N : d.Memory.length ≤ p) :
    Cl 32 #[(.agg (bC k n l o m p d))] w (fun O q => O = (.bool r) ∧ Ext w q) := by
 have H := wp.qcW.math d J
 refine begK mixed Tryz.f32 ann (vc k d.Code.length n l d.Warps.length o m d.Memory.length p d.Waiting d.Phase) ?_
 unfold vc
 unfold wp.qcW at H
 refine qaL (fun P Q L4 c R => ?_)
 have b := qa6 (Ext.refl w) R
 refine ⟨(fun _ => False), ?_⟩
 have hBz := b
 have j := c
 refine ⟨_, _, _, noM (c.a 0), ?_⟩
 have c := c.ext (Ext.drew _)
 have b := qa6 b (Ext.drew _)
 have e := (Chg.refl (fun _ => False) Q).then (Ext.drew _)
 obtain ⟨S, H⟩ := H
 obtain ⟨T, U, H⟩ := qaa H
 refine (qbn.con S U (z.ext b) A).mono ?_
 rintro _ av ⟨rfl, t⟩
 have c := c.ext t
 have b := qa6 b t
 have e := e.then t
 refine ⟨T, rfl, qaw e, ?_⟩
 apply brc H<;>intro h H
 ·cases g.trans H.symm
  exact ⟨rfl, b⟩
 refine ⟨_, _, _, ⟨(fun f => f), (j.at 1 rfl rfl)⟩, ?_⟩
 obtain ⟨V, W, H⟩ := qaa H
 refine (qbV.con W ).mono ?_
 rintro _ aw ⟨rfl, u⟩
 have c := c.ext u
 have b := qa6 b u
 have e := e.then u
 refine ⟨V, rfl, qaw e, ?_⟩
 apply brc H<;>intro h H
 ·cases g.trans H.symm
  exact ⟨rfl, b⟩
 refine ⟨_, _, _, ⟨(fun f => f), (j.at 2 rfl rfl)⟩, ?_⟩
 obtain ⟨X, H⟩ := H
 obtain ⟨Y, Z, H⟩ := qaa H
 refine (qbm.con X Z (L.ext b) N).mono ?_
 rintro _ ax ⟨rfl, v⟩
 have c := c.ext v
 have b := qa6 b v
 have e := e.then v
 refine ⟨Y, rfl, qaw e, ?_⟩
 apply brc H<;>intro h H
 ·cases g.trans H.symm
  exact ⟨rfl, b⟩
 refine ⟨_, ⟨(fun f => f), (j.at 3 rfl rfl)⟩, _, _, _, ⟨(fun f => f), (j.at 1 rfl rfl)⟩, ?_⟩
 obtain ⟨a0, H⟩ := H
 refine ⟨a0, ?_⟩
 obtain ⟨a1, a2, H⟩ := qaa H
 refine (qar.con a2 ).mono ?_
 rintro _ ay ⟨rfl, x⟩
 have c := c.ext x
 have b := qa6 b x
 have e := e.then x
 refine ⟨a1, rfl, qaw e, ?_⟩
 apply brc H<;>intro h H
 ·cases g.trans H.symm
  exact ⟨rfl, b⟩
 refine ⟨_, ⟨(fun f => f), (j.at 4 rfl rfl)⟩, ?_⟩
 obtain ⟨a3, a4, H⟩ := qaa H
 refine (qar.con a4 ).mono ?_
 rintro _ az ⟨rfl, y⟩
 have c := c.ext y
 have b := qa6 b y
 have e := e.then y
 refine ⟨a3, rfl, qaw e, ?_⟩
 apply brc H<;>intro h H
 ·cases g.trans H.symm
  exact ⟨rfl, b⟩
 refine ⟨_, _, _, (c.a 1), ?_⟩
 obtain ⟨a5, ⟨a6, a7⟩, B⟩ := H
 refine ⟨fun m_ z_ q => ∃ (i : Int), z_ = (i, ()) ∧ a5 m_ (i, ()) ∧ Ext w q ∧ Blk q P 33 (bC k n l o m p d), ⟨a6, 0, rfl, a7, b, c⟩, ?_⟩
 rintro a8 _ aA ⟨i, rfl, C, b, c⟩
 have H := B a8 _ C
 clear B C
 try dsimp only at H ⊢
 apply brc H<;>intro h H
 ·obtain ⟨⟨E, F⟩, H⟩ := H
  obtain ⟨a9, aa, ab, ac, ad, ae, af, ag, ah, ai, aj, ak, al⟩ := RowW.at K E F
  refine ⟨E, F, a9, aa, _, (Ext.cell b af), _, _, _, (Ext.cell b ag), _, _, _, (Ext.cell b ah), ?_⟩
  refine qid #[(iv ((rd d.Warps i).Number)), (sv ab ((rd d.Warps i).Frames.length) ac), (sv ad ((rd d.Warps i).Regs.length) ae)] (fun aB aC L7 s G => ?_)
  have c := c.ext G
  have b := qa6 b G
  refine ⟨_, (s.a 0), ?_⟩
  apply brc H<;>intro h H
  ·cases g.trans H.symm
   exact ⟨rfl, b⟩
  refine ⟨_, _, _, (c.a 0), _, (s.a 0), _, _, _, (s.a 1), _, _, _, (s.a 2), ?_⟩
  obtain ⟨am, H⟩ := H
  obtain ⟨an, ao, H⟩ := qaa H
  refine (cllA (qcK.con am ao (z.ext b) A (ai.ext b) aj (ak.ext b) al)).mono ?_
  rintro _ aD ⟨rfl, I⟩
  have c := c.ext I
  have b := qa6 b I
  refine ⟨an, rfl, ?_⟩
  apply brc H<;>intro h H
  ·cases g.trans H.symm
   exact ⟨rfl, b⟩
  obtain ⟨ap, aq, ar⟩ := H
  exact ⟨ap, aq, _, rfl, ar, b, c⟩
 cases g.trans H.symm
 exact ⟨rfl, b⟩
def qbI.vc (c : OA) (d e : Nat) (f : OA) (g h : Nat) (i : OA) (j k : Nat) (l m a : Int) (w : World) (K : VK) : Prop :=
  newK w (.cells (vB c d e f g h i j k l m) 33) fun n b => ldI b (((bx n).add 3).add 0) fun o => ((0 : Int) ≤ a ∧ K (.bool ((qdQ .i64 (Int.fdiv o (2 ^ (min (a.toNat) (IntKind.bits .i64)))) 1) == 1)) b)

def qbI.ann : Ann := (.seq .l (.seq .l .l))

theorem qbI.con {b : D.Block} {d e f : OA} {g h i : Nat} {c : Int} {r : Bool} {w : World} (j : M.qeq b c) (k : r = M.qbI b c) (s : Row el84 w d b.Code) (t : b.Code.length ≤ g) (u : RowW 52 el91 el3 w e b.Warps) (v : b.Warps.length ≤ h) (x : Row el3 w f b.Memory) (y : b.Memory.length ≤ i) :
    Cl 65 #[(.agg (bC d g e h f i b)), (iv c)] w (fun l m => l = (.bool r) ∧ Ext w m) := by
 have H := wp.qbI.math b c j
 refine begK mixed Tryz.f65 ann (vc d b.Code.length g e b.Warps.length h f b.Memory.length i b.Waiting b.Phase c) ?_
 unfold vc
 unfold wp.qbI at H
 refine qaL (fun z A B n o => ?_)
 have p := qa6 (Ext.refl w) o
 refine ⟨_, (n.a 3), ?_⟩
 obtain ⟨q, H⟩ := H
 refine ⟨q, ?_⟩
 cases k.trans H.symm
 exact ⟨rfl, p⟩
def qcs.vc (j : OA) (k l : Nat) (m : OA) (n o : Nat) (p : OA) (q r : Nat) (s t h : Int) (w : World) (K : VK) : Prop :=
  newK w (.cells (vB j k l m n o p q r s t) 33) fun i u => newK u (.cells #[(iv 0), (iv 0), (iv 0), (iv 0)] 84) fun c a => ldS a (((bx i).add 1).add 0) fun v x M => (idx h x v fun y => ldS a (((y.add ((h.toNat) * 3)).add 1).add 0) fun z g N => (∃ b : Nat → Prop, ldSM b a ((bx i).add 0) 0 fun A B O => (idx (wrap .i64 (((g : Nat) : Int) - 1)) g z fun C => ldIM b a ((C.add (((wrap .i64 (((g : Nat) : Int) - 1)).toNat) * 3)).add 0) 0 fun d => (idx d B A fun f => ldIM b a (f.add ((d.toNat) * 4)) 0 fun D => ldIM b a (f.add ((d.toNat) * 4)) 1 fun E => ldIM b a (f.add ((d.toNat) * 4)) 2 fun F => ldIM b a (f.add ((d.toNat) * 4)) 3 fun G => qa5 (bx c) [(iv D), (iv E), (iv F), (iv G)] 0 a.drew fun e => ldI e ((bx c).add 0) fun H => ldI e ((bx c).add 1) fun I => ldI e ((bx c).add 2) fun J => ldI e ((bx c).add 3) fun L => K (.agg #[(iv H), (iv I), (iv J), (iv L)]) e))))

def qcs.ann : Ann := (.seq .l (.seq .l (.seq .l .l)))

theorem qcs.con {b : D.Block} {i j k : OA} {l m n : Nat} {c : Int} {r : D.Ins} {w : World} (z : M.qeH b c) (E : r = M.qcs b c) (F : Row el84 w i b.Code) (X : b.Code.length ≤ l) (G : RowW 52 el91 el3 w j b.Warps) (Y : b.Warps.length ≤ m) (Z : Row el3 w k b.Memory) (a0 : b.Memory.length ≤ n) :
    Cl 98 #[(.agg (bC i l j m k n b)), (iv c)] w (fun I J => I = (.agg (iC r)) ∧ Ext w J) := by
 have H := wp.qcs.math b c z
 refine begK mixed Tryz.f98 ann (vc i b.Code.length l j b.Warps.length m k b.Memory.length n b.Waiting b.Phase c) ?_
 unfold vc
 unfold wp.qcs at H
 refine qaL (fun a1 a2 L4 g K => ?_)
 have d := qa6 (Ext.refl w) K
 refine qaL (fun a3 a4 p L s => ?_)
 have g := g.ext s
 have p := Nat.le_trans d.size p
 have d := qa6 d s
 refine ⟨_, _, _, (g.a 1), ?_⟩
 obtain ⟨⟨t, u⟩, H⟩ := H
 obtain ⟨N, O, a5, a6, a7, a8, a9, P, aa, Q, ab, ac, ad⟩ := RowW.at G t u
 refine ⟨t, u, N, O, _, _, _, (Ext.cell d P), (fun _ => False), _, _, _, noM (g.a 0), ?_⟩
 obtain ⟨⟨v, q⟩, H⟩ := H
 obtain ⟨R, S, T⟩ := Row.at (Q.ext d) v q
 refine ⟨v, (by first | exact q | omega | (simp at q ⊢; omega)), R, S, _, ⟨(fun e => e), (T 0 _ rfl)⟩, ?_⟩
 obtain ⟨⟨x, y⟩, H⟩ := H
 obtain ⟨U, V, h⟩ := Row.at (F.ext d) x y
 refine ⟨x, y, U, V, _, ⟨(fun e => e), (h 0 _ rfl)⟩, _, ⟨(fun e => e), (h 1 _ rfl)⟩, _, ⟨(fun e => e), (h 2 _ rfl)⟩, _, ⟨(fun e => e), (h 3 _ rfl)⟩, ?_⟩
 have f := L.ext (Ext.drew _)
 have d := qa6 d (Ext.drew _)
 refine qda f (o := 0) (cs' := #[(iv ((rd b.Code ((rd ((rd b.Warps c).Frames) (wrap .i64 (((rd b.Warps c).Frames.length : Int) - 1))).Pc)).Op)), (iv ((rd b.Code ((rd ((rd b.Warps c).Frames) (wrap .i64 (((rd b.Warps c).Frames.length : Int) - 1))).Pc)).A)), (iv ((rd b.Code ((rd ((rd b.Warps c).Frames) (wrap .i64 (((rd b.Warps c).Frames.length : Int) - 1))).Pc)).B)), (iv ((rd b.Code ((rd ((rd b.Warps c).Frames) (wrap .i64 (((rd b.Warps c).Frames.length : Int) - 1))).Pc)).C))]) rfl rfl (Nat.le_of_ble_eq_true rfl) rfl (fun ae f W => ?_)
 have d := echg d W p
 refine ⟨_, (f.a 0), _, (f.a 1), _, (f.a 2), _, (f.a 3), ?_⟩
 cases E.trans H.symm
 exact ⟨rfl, d⟩
def qaC.vc (k : OA) (l m : Nat) (n : OA) (o p : Nat) (q : OA) (r s : Nat) (t u i : Int) (w : World) (K : VK) : Prop :=
  newK w (.cells (vB k l m n o p q r s t u) 33) fun j v => newK v (.cells #[(iv 0), (iv 0), (iv 0), (iv 0)] 84) fun b a => ldS a (((bx j).add 1).add 0) fun x y R => (idx i y x fun z => ldS a (((z.add ((i.toNat) * 3)).add 1).add 0) fun A g S => qa1 (((g : Nat) : Int) == 0) (qa5 (bx b) [(iv 0), (iv 0), (iv 0), (iv 0)] 0 a fun e => ldI e ((bx b).add 0) fun B => ldI e ((bx b).add 1) fun C => ldI e ((bx b).add 2) fun D => ldI e ((bx b).add 3) fun E => K (.tuple #[(.agg #[(iv B), (iv C), (iv D), (iv E)]), (.bool false)]) e) ((∃ c : Nat → Prop, ldSM c a ((bx j).add 0) 0 fun F G T => (idx (wrap .i64 (((g : Nat) : Int) - 1)) g A fun H => ldIM c a ((H.add (((wrap .i64 (((g : Nat) : Int) - 1)).toNat) * 3)).add 0) 0 fun f => (idx f G F fun h => ldIM c a (h.add ((f.toNat) * 4)) 0 fun I => ldIM c a (h.add ((f.toNat) * 4)) 1 fun J => ldIM c a (h.add ((f.toNat) * 4)) 2 fun L => ldIM c a (h.add ((f.toNat) * 4)) 3 fun M => qa5 (bx b) [(iv I), (iv J), (iv L), (iv M)] 0 a.drew fun d => qab c a d ∧ ldI d ((bx b).add 0) fun N => ldI d ((bx b).add 1) fun O => ldI d ((bx b).add 2) fun P => ldI d ((bx b).add 3) fun Q => K (.tuple #[(.agg #[(iv N), (iv O), (iv P), (iv Q)]), (.bool true)]) d)))))

def qaC.ann : Ann := (.seq .l (.seq .l (.seq (.seq .l (.two (.seq .l .l) .l)) (.seq .l .l))))

theorem qaC.con {b : D.Block} {v x y : OA} {z E F : Nat} {e : Int} {r : D.Ins × Bool} {w : World} (R : M.qdG b e) (I : r = M.qaC b e) (n : Row el84 w v b.Code) (a5 : b.Code.length ≤ z) (S : RowW 52 el91 el3 w x b.Warps) (a6 : b.Warps.length ≤ E) (a7 : Row el3 w y b.Memory) (a8 : b.Memory.length ≤ F) :
    Cl 68 #[(.agg (bC v z x E y F b)), (iv e)] w (fun T U => T = (.tuple #[(.agg (iC r.1)), (.bool r.2)]) ∧ Ext w U) := by
 have H := wp.qaC.math b e R
 refine begK mixed Tryz.f68 ann (vc v b.Code.length z x b.Warps.length E y b.Memory.length F b.Waiting b.Phase e) ?_
 unfold vc
 unfold wp.qaC at H
 refine qaL (fun a9 aa L4 p V => ?_)
 have c := qa6 (Ext.refl w) V
 refine qaL (fun k W i X J => ?_)
 have Y := p.ne i
 have p := p.ext J
 have d := X
 have i := Nat.le_trans c.size i
 have c := qa6 c J
 refine ⟨_, _, _, (p.a 1), ?_⟩
 obtain ⟨⟨K, L⟩, H⟩ := H
 obtain ⟨Z, a0, ab, ac, ad, ae, af, a1, ag, N, ah, ai, aj⟩ := RowW.at S K L
 refine ⟨K, L, Z, a0, _, _, _, (Ext.cell c a1), ?_⟩
 apply brc H<;>intro h H
 ·refine qda d (o := 0) (cs' := #[(iv 0), (iv 0), (iv 0), (iv 0)]) rfl rfl (Nat.le_of_ble_eq_true rfl) rfl (fun ak d a2 => ?_)
  have c := echg c a2 i
  refine ⟨_, (d.a 0), _, (d.a 1), _, (d.a 2), _, (d.a 3), ?_⟩
  cases I.trans H.symm
  exact ⟨rfl, c⟩
 refine ⟨((fun f => f = k)), _, _, _, ⟨(qfb (Y) (by first | rfl | (simp only [qcT]))), (p.a 0)⟩, ?_⟩
 obtain ⟨⟨G, t⟩, H⟩ := H
 obtain ⟨O, P, a3⟩ := Row.at (N.ext c) G t
 refine ⟨G, (by first | exact t | omega | (simp at t ⊢; omega)), O, P, _, ⟨(qfb (M := ((fun f => f = k))) (g := Addr.block O) (fun j => absurd (N.old (qlo G t) _ ⟨_, P, rfl⟩) (Nat.not_lt.2 (qgv i _ j))) (by first | rfl | (simp only [qcT]))), (a3 0 _ rfl)⟩, ?_⟩
 obtain ⟨⟨l, m⟩, H⟩ := H
 obtain ⟨q, s, u⟩ := Row.at (n.ext c) l m
 refine ⟨l, m, q, s, _, ⟨(qfb (M := ((fun f => f = k))) (g := Addr.block q) (fun j => absurd (n.old (qlo l m) _ ⟨_, s, rfl⟩) (Nat.not_lt.2 (qgv i _ j))) (by first | rfl | (simp only [qcT]))), (u 0 _ rfl)⟩, _, ⟨(qfb (M := ((fun f => f = k))) (g := Addr.block q) (fun j => absurd (n.old (qlo l m) _ ⟨_, s, rfl⟩) (Nat.not_lt.2 (qgv i _ j))) (by first | rfl | (simp only [qcT]))), (u 1 _ rfl)⟩, _, ⟨(qfb (M := ((fun f => f = k))) (g := Addr.block q) (fun j => absurd (n.old (qlo l m) _ ⟨_, s, rfl⟩) (Nat.not_lt.2 (qgv i _ j))) (by first | rfl | (simp only [qcT]))), (u 2 _ rfl)⟩, ?_⟩
 refine ⟨_, ⟨(qfb (M := ((fun f => f = k))) (g := Addr.block q) (fun j => absurd (n.old (qlo l m) _ ⟨_, s, rfl⟩) (Nat.not_lt.2 (qgv i _ j))) (by first | rfl | (simp only [qcT]))), (u 3 _ rfl)⟩, ?_⟩
 have d := d.ext (Ext.drew _)
 have c := qa6 c (Ext.drew _)
 refine qda d (o := 0) (cs' := #[(iv ((rd b.Code ((rd ((rd b.Warps e).Frames) (wrap .i64 (((rd b.Warps e).Frames.length : Int) - 1))).Pc)).Op)), (iv ((rd b.Code ((rd ((rd b.Warps e).Frames) (wrap .i64 (((rd b.Warps e).Frames.length : Int) - 1))).Pc)).A)), (iv ((rd b.Code ((rd ((rd b.Warps e).Frames) (wrap .i64 (((rd b.Warps e).Frames.length : Int) - 1))).Pc)).B)), (iv ((rd b.Code ((rd ((rd b.Warps e).Frames) (wrap .i64 (((rd b.Warps e).Frames.length : Int) - 1))).Pc)).C))]) rfl rfl (Nat.le_of_ble_eq_true rfl) rfl (fun al d Q => ?_)
 have c := echg c Q i
 have a4 := ((Chg.refl ((fun f => f = k)) W).then (Ext.drew _)).chgb Q (Or.inr rfl)
 refine ⟨qaw a4, _, (d.a 0), _, (d.a 1), _, (d.a 2), _, (d.a 3), ?_⟩
 cases I.trans H.symm
 exact ⟨rfl, c⟩
def qal.vc (g : OA) (e s : Nat) (h : OA) (f t : Nat) (w : World) (K : VK) : Prop :=
  qa1 (((e : Nat) : Int) != ((f : Nat) : Int)) (K (.bool false) w) (qdh (σ := Int × Unit) (fun a b i => qa1 (decide (a.1 < ((e : Nat) : Int))) ((idx a.1 e g fun c => ldI b ((c.add ((a.1.toNat) * 4)).add 0) fun j => ldI b ((c.add ((a.1.toNat) * 4)).add 1) fun k => ldI b ((c.add ((a.1.toNat) * 4)).add 2) fun l => ldI b ((c.add ((a.1.toNat) * 4)).add 3) fun m => (idx a.1 f h fun d => ldI b ((d.add ((a.1.toNat) * 4)).add 0) fun n => ldI b ((d.add ((a.1.toNat) * 4)).add 1) fun o => ldI b ((d.add ((a.1.toNat) * 4)).add 2) fun p => ldI b ((d.add ((a.1.toNat) * 4)).add 3) fun q => qk8 Tryz.prog .neq 84 (.agg #[(iv j), (iv k), (iv l), (iv m)]) (.agg #[(iv n), (iv o), (iv p), (iv q)]) fun r => qa1 r (K (.bool false) b.drew) (i ((wrap .i64 (a.1 + 1)), ()) b.drew)))) (K (.bool true) b)) (0, ()) w)

def qal.ann : Ann := (.seq .l (.seq (.seq .l (.two (.seq .l .l) .l)) (.seq (.seq .l (.one (.loop [(13, .int .i64)] (.seq .l (.seq (.two .l .l) (.seq (.one (.seq .l (.seq .l (.two (.seq .l .l) .l)))) .l)))))) (.seq .l .l))))

theorem qal.con {a b : List D.Ins} {g i : OA} {j k : Nat} {r : Bool} {w : World} (u : M.qdt a b) (l : r = M.qal a b) (v : Row el84 w g a) (S : a.length ≤ j) (x : Row el84 w i b) (T : b.length ≤ k) :
    Cl 71 #[(sv g a.length j), (sv i b.length k)] w (fun y m => y = (.bool r) ∧ Ext w m) := by
 have H := wp.qal.math a b u
 have d := Ext.refl w
 refine begK mixed Tryz.f71 ann (vc g a.length j i b.length k) ?_
 unfold vc
 unfold wp.qal at H
 apply brc H<;>intro h H
 ·cases l.trans H.symm
  exact ⟨rfl, d⟩
 obtain ⟨z, ⟨E, F⟩, n⟩ := H
 refine ⟨fun G I m => ∃ (c : Int), I = (c, ()) ∧ z G (c, ()) ∧ Ext w m, ⟨E, 0, rfl, F, d⟩, ?_⟩
 rintro J _ U ⟨c, rfl, o, d⟩
 have H := n J _ o
 clear n o
 try dsimp only at H ⊢
 apply brc H<;>intro h H
 ·obtain ⟨⟨p, q⟩, H⟩ := H
  obtain ⟨K, L, e⟩ := Row.at (v.ext d) p q
  refine ⟨p, q, K, L, _, (e 0 _ rfl), _, (e 1 _ rfl), _, (e 2 _ rfl), _, (e 3 _ rfl), ?_⟩
  obtain ⟨⟨s, t⟩, H⟩ := H
  obtain ⟨N, O, f⟩ := Row.at (x.ext d) s t
  refine ⟨s, t, N, O, _, (f 0 _ rfl), _, (f 1 _ rfl), _, (f 2 _ rfl), _, (f 3 _ rfl), _, qob ((rd a c).Op) ((rd a c).A) ((rd a c).B) ((rd a c).C) ((rd b c).Op) ((rd b c).A) ((rd b c).B) ((rd b c).C), ?_⟩
  have d := qa6 d (Ext.drew _)
  apply brc H<;>intro h H
  ·cases l.trans H.symm
   exact ⟨rfl, d⟩
  obtain ⟨P, Q, R⟩ := H
  exact ⟨P, Q, _, rfl, R, d⟩
 cases l.trans H.symm
 exact ⟨rfl, d⟩
def qa4.vc (m : OA) (g Y : Nat) (n : OA) (j Z o : Nat) (p : Array Value) (w : World) (K : VK) : Prop :=
  qa1 (((g : Nat) : Int) != ((j : Nat) : Int)) (K (.bool false) w) (qdh (σ := Int × Unit) (fun a c q => qa1 (decide (a.1 < ((g : Nat) : Int))) ((idx a.1 g m fun h => ldI c ((h.add ((a.1.toNat) * 3)).add 0) fun r => ldS c ((h.add ((a.1.toNat) * 3)).add 1) fun s t u => ldS c ((h.add ((a.1.toNat) * 3)).add 2) fun v x y => newK c (.cells #[(iv 0), (sv none 0 0), (sv none 0 0)] 52) fun d z => qa5 (bx d) [(iv r), (sv s t u), (sv v x y)] 0 z fun e => (idx a.1 j n fun i => ldI e ((i.add ((a.1.toNat) * 3)).add 0) fun A => ldS e ((i.add ((a.1.toNat) * 3)).add 1) fun B C D => ldS e ((i.add ((a.1.toNat) * 3)).add 2) fun E F G => newK e (.cells #[(iv 0), (sv none 0 0), (sv none 0 0)] 52) fun f H => qa5 (bx f) [(iv A), (sv B C D), (sv E F G)] 0 H fun b => ldI b ((bx d).add 0) fun I => ldS b ((bx d).add 1) fun J L M => ldS b ((bx d).add 2) fun N O P => ldI b ((bx f).add 0) fun Q => ldS b ((bx f).add 1) fun R S T => ldS b ((bx f).add 2) fun U V W => Cl o (#[(.agg #[(iv I), (sv J L M), (sv N O P)]), (.agg #[(iv Q), (sv R S T), (sv U V W)])] ++ p) b fun X k => (∃ (l : Bool), X = (.bool l) ∧ qa1 (!l) (K (.bool false) k) (q ((wrap .i64 (a.1 + 1)), ()) k))))) (K (.bool true) c)) (0, ()) w)

def qa4.ann : Ann := (.seq .l (.seq (.seq .l (.two (.seq .l .l) .l)) (.seq (.seq .l (.one (.loop [(17, .int .i64)] (.seq .l (.seq (.two .l .l) (.seq (.one (.seq .l (.seq .l (.seq .l (.two (.seq .l .l) .l))))) .l)))))) (.seq .l .l))))

theorem qa4.start {A0 : OA} {n0 c0 : Nat} {A1 : OA} {n1 c1 f2 : Nat} {cap2 : Array Value} {w : World} {K : Value → World → Prop} (h : qa4.vc A0 n0 c0 A1 n1 c1 f2 cap2 w K) : Cl 72 #[(sv A0 n0 c0), (sv A1 n1 c1), (.func (.func f2) #[] cap2)] w K :=
  qdM mixed (fn := Tryz.f72) (by kernel_rfl) (by kernel_rfl) (an := qa4.ann) (args := [(sv A0 n0 c0), (sv A1 n1 c1), (.func (.func f2) #[] cap2)]) (Eq.mpr (by kernel_rfl) h)

theorem qa4.con {e f : List D.Warp} {p q : OA} {s t u : Nat} {v : Array Value} {k : D.Warp → D.Warp → Bool} {l : D.Warp → D.Warp → Prop} {r : Bool} {w : World} (P : M.qbi e f k l) (m : r = M.qa4 e f k) (Q : RowW 52 el91 el3 w p e) (aA : e.length ≤ s) (R : RowW 52 el91 el3 w q f) (aB : f.length ≤ t) (S : ∀ (g : D.Warp) (i : D.Warp) (x : OA) (y : Nat) (z : OA) (A : Nat) (B : OA) (C : Nat) (E : OA) (F : Nat), l g i → ∀ c : World, Ext w c → Row el91 c x g.Frames → g.Frames.length ≤ y → Row el3 c z g.Regs → g.Regs.length ≤ A → Row el91 c B i.Frames → i.Frames.length ≤ C → Row el3 c E i.Regs → i.Regs.length ≤ F → Cl u (#[(.agg (wC x y z A g)), (.agg (wC B C E F i))] ++ v) c (fun n T => n = (.bool (k g i)) ∧ Ext c T)) :
    Cl 72 #[(sv p e.length s), (sv q f.length t), (.func (.func u) #[] v)] w (fun n c => n = (.bool r) ∧ Ext w c) := by
 have H := wp.qa4.math e f k l P
 have b := Ext.refl w
 refine qa4.start ?_
 unfold vc
 unfold wp.qa4 at H
 apply brc H<;>intro h H
 ·cases m.trans H.symm
  exact ⟨rfl, b⟩
 obtain ⟨U, ⟨V, W⟩, G⟩ := H
 refine ⟨fun X Y c => ∃ (d : Int), Y = (d, ()) ∧ U X (d, ()) ∧ Ext w c, ⟨V, 0, rfl, W, b⟩, ?_⟩
 rintro Z _ aC ⟨d, rfl, I, b⟩
 have H := G Z _ I
 clear G I
 try dsimp only at H ⊢
 apply brc H<;>intro h H
 ·obtain ⟨⟨J, K⟩, H⟩ := H
  obtain ⟨a0, a1, a2, a3, a4, a5, a6, a7, a8, a9, aa, ab, ac⟩ := RowW.at Q J K
  refine ⟨J, K, a0, a1, _, (Ext.cell b a6), _, _, _, (Ext.cell b a7), _, _, _, (Ext.cell b a8), ?_⟩
  refine qid #[(iv ((rd e d).Number)), (sv a2 ((rd e d).Frames.length) a3), (sv a4 ((rd e d).Regs.length) a5)] (fun aD aE L5 j ad => ?_)
  have b := qa6 b ad
  obtain ⟨⟨L, N⟩, H⟩ := H
  obtain ⟨ae, af, ag, ah, ai, aj, ak, al, am, an, ao, ap, aq⟩ := RowW.at R L N
  refine ⟨L, N, ae, af, _, (Ext.cell b ak), _, _, _, (Ext.cell b al), _, _, _, (Ext.cell b am), ?_⟩
  refine qid #[(iv ((rd f d).Number)), (sv ag ((rd f d).Frames.length) ah), (sv ai ((rd f d).Regs.length) aj)] (fun aF aG L8 o O => ?_)
  have j := j.ext O
  have b := qa6 b O
  refine ⟨_, (j.a 0), _, _, _, (j.a 1), _, _, _, (j.a 2), _, (o.a 0), _, _, _, (o.a 1), _, _, _, (o.a 2), ?_⟩
  obtain ⟨ar, H⟩ := H
  obtain ⟨au, av, H⟩ := qaa H
  refine (S (rd e d) (rd f d) _ _ _ _ _ _ _ _ ar _ b (a9.ext b) aa (ab.ext b) ac (an.ext b) ao (ap.ext b) aq).mono ?_
  rintro _ aH ⟨rfl, aw⟩
  rw [← av]
  have b := qa6 b aw
  refine ⟨au, rfl, ?_⟩
  apply brc H<;>intro h H
  ·cases m.trans H.symm
   exact ⟨rfl, b⟩
  obtain ⟨ax, ay, az⟩ := H
  exact ⟨ax, ay, _, rfl, az, b⟩
 cases m.trans H.symm
 exact ⟨rfl, b⟩
def qag.vc (g : OA) (c q : Nat) (h : OA) (f r : Nat) (w : World) (K : VK) : Prop :=
  qa1 (((c : Nat) : Int) != ((f : Nat) : Int)) (K (.bool false) w) (qdh (σ := Int × Unit) (fun a b i => qa1 (decide (a.1 < ((c : Nat) : Int))) ((idx a.1 c g fun d => ldI b ((d.add ((a.1.toNat) * 3)).add 0) fun j => ldI b ((d.add ((a.1.toNat) * 3)).add 1) fun k => ldI b ((d.add ((a.1.toNat) * 3)).add 2) fun l => (idx a.1 f h fun e => ldI b ((e.add ((a.1.toNat) * 3)).add 0) fun m => ldI b ((e.add ((a.1.toNat) * 3)).add 1) fun n => ldI b ((e.add ((a.1.toNat) * 3)).add 2) fun o => qk8 Tryz.prog .neq 91 (.agg #[(iv j), (iv k), (iv l)]) (.agg #[(iv m), (iv n), (iv o)]) fun p => qa1 p (K (.bool false) b.drew) (i ((wrap .i64 (a.1 + 1)), ()) b.drew)))) (K (.bool true) b)) (0, ()) w)

def qag.ann : Ann := (.seq .l (.seq (.seq .l (.two (.seq .l .l) .l)) (.seq (.seq .l (.one (.loop [(13, .int .i64)] (.seq .l (.seq (.two .l .l) (.seq (.one (.seq .l (.seq .l (.two (.seq .l .l) .l)))) .l)))))) (.seq .l .l))))

theorem qag.con {a b : List D.Frame} {e f : OA} {g i : Nat} {r : Bool} {w : World} (u : M.qd6 a b) (j : r = M.qag a b) (v : Row el91 w e a) (P : a.length ≤ g) (x : Row el91 w f b) (Q : b.length ≤ i) :
    Cl 74 #[(sv e a.length g), (sv f b.length i)] w (fun y k => y = (.bool r) ∧ Ext w k) := by
 have H := wp.qag.math a b u
 have c := Ext.refl w
 refine begK mixed Tryz.f74 ann (vc e a.length g f b.length i) ?_
 unfold vc
 unfold wp.qag at H
 apply brc H<;>intro h H
 ·cases j.trans H.symm
  exact ⟨rfl, c⟩
 obtain ⟨z, ⟨A, B⟩, n⟩ := H
 refine ⟨fun C E k => ∃ (d : Int), E = (d, ()) ∧ z C (d, ()) ∧ Ext w k, ⟨A, 0, rfl, B, c⟩, ?_⟩
 rintro F _ R ⟨d, rfl, o, c⟩
 have H := n F _ o
 clear n o
 try dsimp only at H ⊢
 apply brc H<;>intro h H
 ·obtain ⟨⟨p, q⟩, H⟩ := H
  obtain ⟨G, I, l⟩ := Row.at (v.ext c) p q
  refine ⟨p, q, G, I, _, (l 0 _ rfl), _, (l 1 _ rfl), _, (l 2 _ rfl), ?_⟩
  obtain ⟨⟨s, t⟩, H⟩ := H
  obtain ⟨J, K, m⟩ := Row.at (x.ext c) s t
  refine ⟨s, t, J, K, _, (m 0 _ rfl), _, (m 1 _ rfl), _, (m 2 _ rfl), _, qnF ((rd a d).Pc) ((rd a d).Stop) ((rd a d).Mask) ((rd b d).Pc) ((rd b d).Stop) ((rd b d).Mask), ?_⟩
  have c := qa6 c (Ext.drew _)
  apply brc H<;>intro h H
  ·cases j.trans H.symm
   exact ⟨rfl, c⟩
  obtain ⟨L, N, O⟩ := H
  exact ⟨L, N, _, rfl, O, c⟩
 cases j.trans H.symm
 exact ⟨rfl, c⟩
def qax.vc (e : OA) (c l : Nat) (f : OA) (d m : Nat) (w : World) (K : VK) : Prop :=
  qa1 (((c : Nat) : Int) != ((d : Nat) : Int)) (K (.bool false) w) (qdh (σ := Int × Unit) (fun a b g => qa1 (decide (a.1 < ((c : Nat) : Int))) ((idx a.1 c e fun h => ldI b ((h.add ((a.1.toNat) * 1)).add 0) fun i => (idx a.1 d f fun j => ldI b ((j.add ((a.1.toNat) * 1)).add 0) fun k => qa1 (i != k) (K (.bool false) b.drew) (g ((wrap .i64 (a.1 + 1)), ()) b.drew)))) (K (.bool true) b)) (0, ()) w)

def qax.ann : Ann := (.seq .l (.seq (.seq .l (.two (.seq .l .l) .l)) (.seq (.seq .l (.one (.loop [(13, .int .i64)] (.seq .l (.seq (.two .l .l) (.seq (.one (.seq .l (.seq .l (.two (.seq .l .l) .l)))) .l)))))) (.seq .l .l))))

theorem qax.con {b c : List Int} {d e : OA} {f g : Nat} {r : Bool} {w : World} (s : M.qdP b c) (i : r = M.qax b c) (t : Row el3 w d b) (O : b.length ≤ f) (u : Row el3 w e c) (P : c.length ≤ g) :
    Cl 73 #[(sv d b.length f), (sv e c.length g)] w (fun v j => v = (.bool r) ∧ Ext w j) := by
 have H := wp.qax.math b c s
 have a := Ext.refl w
 refine begK mixed Tryz.f73 ann (vc d b.length f e c.length g) ?_
 unfold vc
 unfold wp.qax at H
 apply brc H<;>intro h H
 ·cases i.trans H.symm
  exact ⟨rfl, a⟩
 obtain ⟨x, ⟨y, z⟩, l⟩ := H
 refine ⟨fun A B j => ∃ (k : Int), B = (k, ()) ∧ x A (k, ()) ∧ Ext w j, ⟨y, 0, rfl, z, a⟩, ?_⟩
 rintro C _ Q ⟨k, rfl, m, a⟩
 have H := l C _ m
 clear l m
 try dsimp only at H ⊢
 apply brc H<;>intro h H
 ·obtain ⟨⟨n, o⟩, H⟩ := H
  obtain ⟨D, E, F⟩ := Row.at (t.ext a) n o
  refine ⟨n, o, D, E, _, (F 0 _ rfl), ?_⟩
  obtain ⟨⟨p, q⟩, H⟩ := H
  obtain ⟨G, I, J⟩ := Row.at (u.ext a) p q
  refine ⟨p, q, G, I, _, (J 0 _ rfl), ?_⟩
  have a := qa6 a (Ext.drew _)
  apply brc H<;>intro h H
  ·cases i.trans H.symm
   exact ⟨rfl, a⟩
  obtain ⟨K, L, N⟩ := H
  exact ⟨K, L, _, rfl, N, a⟩
 cases i.trans H.symm
 exact ⟨rfl, a⟩
def qce.vc (g : Int) (h : OA) (i j : Nat) (k : OA) (l m : Nat) (n : Int) (o : OA) (p q : Nat) (r : OA) (s t : Nat) (w : World) (K : VK) : Prop :=
  newK w (.cells #[(iv g), (sv h i j), (sv k l m)] 52) fun c u => newK u (.cells #[(iv n), (sv o p q), (sv r s t)] 52) fun d a => ldI a (((bx c).add 0).add 0) fun v => ldI a (((bx d).add 0).add 0) fun x => qa1 (v == x) (ldS a (((bx c).add 1).add 0) fun y z A => ldS a (((bx d).add 1).add 0) fun B C D => Cl 74 #[(sv y z A), (sv B C D)] a fun E b => (∃ (e : Bool), E = (.bool e) ∧ qa1 e (ldS b (((bx c).add 2).add 0) fun F G H => ldS b (((bx d).add 2).add 0) fun I J L => Cl 73 #[(sv F G H), (sv I J L)] b fun M N => (∃ (f : Bool), M = (.bool f) ∧ K (.bool f) N)) (K (.bool false) b))) (K (.bool false) a)

def qce.ann : Ann := (.seq .l (.seq .l .l))

theorem qce.con {b c : D.Warp} {g i j k : OA} {l m n o : Nat} {r : Bool} {w : World} (t : M.qfU b c) (p : r = M.qce b c) (u : Row el91 w g b.Frames) (v : b.Frames.length ≤ l) (x : Row el3 w i b.Regs) (y : b.Regs.length ≤ m) (z : Row el91 w j c.Frames) (A : c.Frames.length ≤ n) (B : Row el3 w k c.Regs) (C : c.Regs.length ≤ o) :
    Cl 31 #[(.agg (wC g l i m b)), (.agg (wC j n k o c))] w (fun E F => E = (.bool r) ∧ Ext w F) := by
 have H := wp.qce.math b c t
 refine begK mixed Tryz.f31 ann (vc b.Number g b.Frames.length l i b.Regs.length m c.Number j c.Frames.length n k c.Regs.length o) ?_
 unfold vc
 unfold wp.qce at H
 refine qaL (fun Q R S e G => ?_)
 refine qaL (fun T U V f s => ?_)
 have e := e.ext s
 have d := qa6 (qa6 (Ext.refl w) G) s
 refine ⟨_, (e.a 0), _, (f.a 0), ?_⟩
 apply brc H<;>intro h H
 ·refine ⟨_, _, _, (e.a 1), _, _, _, (f.a 1), ?_⟩
  obtain ⟨I, H⟩ := H
  obtain ⟨J, K, H⟩ := qaa H
  refine (qag.con I K (u.ext d) v (z.ext d) A).mono ?_
  rintro _ W ⟨rfl, q⟩
  have e := e.ext q
  have f := f.ext q
  have d := qa6 d q
  refine ⟨J, rfl, ?_⟩
  apply brc H<;>intro h H
  ·refine ⟨_, _, _, (e.a 2), _, _, _, (f.a 2), ?_⟩
   obtain ⟨L, H⟩ := H
   obtain ⟨N, O, H⟩ := qaa H
   refine (qax.con L O (x.ext d) y (B.ext d) C).mono ?_
   rintro _ X ⟨rfl, P⟩
   have d := qa6 d P
   refine ⟨N, rfl, ?_⟩
   cases p.trans H.symm
   exact ⟨rfl, d⟩
  cases p.trans H.symm
  exact ⟨rfl, d⟩
 cases p.trans H.symm
 exact ⟨rfl, d⟩
def qck.vc (j : OA) (k l : Nat) (m : OA) (n o : Nat) (p : OA) (q r : Nat) (s t : Int) (u : OA) (v x : Nat) (y : OA) (z A : Nat) (B : OA) (C D : Nat) (E F : Int) (w : World) (K : VK) : Prop :=
  newK w (.cells (vB j k l m n o p q r s t) 33) fun b G => newK G (.cells (vB u v x y z A B C D E F) 33) fun c f => ldS f (((bx b).add 0).add 0) fun H I J => ldS f (((bx c).add 0).add 0) fun L M N => Cl 71 #[(sv H I J), (sv L M N)] f fun O d => (∃ (g : Bool), O = (.bool g) ∧ qa1 g (ldS d (((bx b).add 1).add 0) fun P Q R => ldS d (((bx c).add 1).add 0) fun S T U => Cl 72 #[(sv P Q R), (sv S T U), (.func (.func 31) #[] #[])] d fun V e => (∃ (h : Bool), V = (.bool h) ∧ qa1 h (ldS e (((bx b).add 2).add 0) fun W X Y => ldS e (((bx c).add 2).add 0) fun Z a0 a1 => Cl 73 #[(sv W X Y), (sv Z a0 a1)] e fun a2 a => (∃ (i : Bool), a2 = (.bool i) ∧ qa1 i (ldI a (((bx b).add 3).add 0) fun a3 => ldI a (((bx c).add 3).add 0) fun a4 => qa1 (a3 == a4) (ldI a (((bx b).add 4).add 0) fun a5 => ldI a (((bx c).add 4).add 0) fun a6 => K (.bool (a5 == a6)) a) (K (.bool false) a)) (K (.bool false) a))) (K (.bool false) e))) (K (.bool false) d))

def qck.ann : Ann := (.seq .l (.seq .l .l))

theorem qck.con {c d : D.Block} {i j k l m n : OA} {o p q s t u : Nat} {r : Bool} {w : World} (B : M.qfM c d) (g : r = M.qck c d) (C : Row el84 w i c.Code) (E : c.Code.length ≤ o) (F : RowW 52 el91 el3 w j c.Warps) (G : c.Warps.length ≤ p) (I : Row el3 w k c.Memory) (J : c.Memory.length ≤ q) (K : Row el84 w l d.Code) (L : d.Code.length ≤ s) (N : RowW 52 el91 el3 w m d.Warps) (O : d.Warps.length ≤ t) (P : Row el3 w n d.Memory) (Q : d.Memory.length ≤ u) :
    Cl 30 #[(.agg (bC i o j p k q c)), (.agg (bC l s m t n u d))] w (fun R z => R = (.bool r) ∧ Ext w z) := by
 have H := wp.qck.math c d B
 refine begK mixed Tryz.f30 ann (vc i c.Code.length o j c.Warps.length p k c.Memory.length q c.Waiting c.Phase l d.Code.length s m d.Warps.length t n d.Memory.length u d.Waiting d.Phase) ?_
 unfold vc
 unfold wp.qck at H
 refine qaL (fun ab ac L7 e S => ?_)
 refine qaL (fun ad ae L8 f A => ?_)
 have e := e.ext A
 have b := qa6 (qa6 (Ext.refl w) S) A
 refine ⟨_, _, _, (e.a 0), _, _, _, (f.a 0), ?_⟩
 obtain ⟨T, H⟩ := H
 obtain ⟨U, V, H⟩ := qaa H
 refine (qal.con T V (C.ext b) E (K.ext b) L).mono ?_
 rintro _ af ⟨rfl, v⟩
 have e := e.ext v
 have f := f.ext v
 have b := qa6 b v
 refine ⟨U, rfl, ?_⟩
 apply brc H<;>intro h H
 ·refine ⟨_, _, _, (e.a 1), _, _, _, (f.a 1), ?_⟩
  obtain ⟨W, H⟩ := H
  obtain ⟨X, Y, H⟩ := qaa H
  refine (qa4.con W Y (F.ext b) G (N.ext b) O (fun ag ah ai aj ak al am an ao ap Z z e_ a0 a1 a2 a3 a4 a5 a6 a7 => qii (l1 := [_, _]) (l2 := []) (qce.con Z rfl a0 a1 a2 a3 a4 a5 a6 a7))).mono ?_
  rintro _ aq ⟨rfl, x⟩
  have e := e.ext x
  have f := f.ext x
  have b := qa6 b x
  refine ⟨X, rfl, ?_⟩
  apply brc H<;>intro h H
  ·refine ⟨_, _, _, (e.a 2), _, _, _, (f.a 2), ?_⟩
   obtain ⟨a8, H⟩ := H
   obtain ⟨a9, aa, H⟩ := qaa H
   refine (qax.con a8 aa (I.ext b) J (P.ext b) Q).mono ?_
   rintro _ ar ⟨rfl, y⟩
   have e := e.ext y
   have f := f.ext y
   have b := qa6 b y
   refine ⟨a9, rfl, ?_⟩
   apply brc H<;>intro h H
   ·refine ⟨_, (e.a 3), _, (f.a 3), ?_⟩
    apply brc H<;>intro h H
    ·refine ⟨_, (e.a 4), _, (f.a 4), ?_⟩
     cases g.trans H.symm
     exact ⟨rfl, b⟩
    cases g.trans H.symm
    exact ⟨rfl, b⟩
   cases g.trans H.symm
   exact ⟨rfl, b⟩
  cases g.trans H.symm
  exact ⟨rfl, b⟩
 cases g.trans H.symm
 exact ⟨rfl, b⟩
def qcq.vc (q : OA) (h r : Nat) (i : Int) (w : World) (K : VK) : Prop :=
  newK w (.cells #[(iv 0), (sv none 0 0), (sv none 0 0)] 52) fun a s => Cl 160 #[(sv q h r)] s fun t j => (∃ (k : Bool), t = (.bool k) ∧ qa1 (!k) (qa5 (bx a) [(iv 0), (sv none 0 0), (sv none 0 0)] 0 j fun d => ldI d ((bx a).add 0) fun u => ldS d ((bx a).add 1) fun v x y => ldS d ((bx a).add 2) fun z A B => K (.tuple #[(.agg #[(iv u), (sv v x y), (sv z A B)]), (.bool false)]) d) (Cl 99 #[(iv i), (iv 0), (iv 2)] j fun C l => (∃ (m : Bool), C = (.bool m) ∧ qa1 (!m) (qa5 (bx a) [(iv 0), (sv none 0 0), (sv none 0 0)] 0 l fun e => ldI e ((bx a).add 0) fun D => ldS e ((bx a).add 1) fun E F G => ldS e ((bx a).add 2) fun H I J => K (.tuple #[(.agg #[(iv D), (sv E F G), (sv H I J)]), (.bool false)]) e) (qfT Tryz.prog 24 32 32 l fun L M => newK M (.cells #[(iv 0), (sv none 0 0), (sv none 0 0)] 52) fun b N => qa5 (bx b) [(iv i), (sv none 0 0), (sv (some (bx L)) ((32 : Int).toNat) ((32 : Int).toNat))] 0 N fun c => qa1 (decide (((h : Nat) : Int) > 0)) (Run Tryz.prog (Instr.buildSlice 50 1 #[(0, (.agg #[(iv 0), (iv ((h : Nat) : Int)), (iv 255)]))]) c fun O P => ∃ (n : OA) (o p : Nat), O = .slice n o p ∧ qa5 ((bx b).add 1) [(sv n o p)] 0 P fun f => ldI f ((bx b).add 0) fun Q => ldS f ((bx b).add 1) fun R S T => ldS f ((bx b).add 2) fun U V W => qa5 (bx a) [(iv Q), (sv R S T), (sv U V W)] 0 f fun w64 => ldI w64 ((bx a).add 0) fun X => ldS w64 ((bx a).add 1) fun Y Z a0 => ldS w64 ((bx a).add 2) fun a1 a2 a3 => K (.tuple #[(.agg #[(iv X), (sv Y Z a0), (sv a1 a2 a3)]), (.bool true)]) w64) (ldI c ((bx b).add 0) fun a4 => ldS c ((bx b).add 1) fun a5 a6 a7 => ldS c ((bx b).add 2) fun a8 a9 aa => qa5 (bx a) [(iv a4), (sv a5 a6 a7), (sv a8 a9 aa)] 0 c fun g => ldI g ((bx a).add 0) fun ab => ldS g ((bx a).add 1) fun ac ad ae => ldS g ((bx a).add 2) fun af ag ah => K (.tuple #[(.agg #[(iv ab), (sv ac ad ae), (sv af ag ah)]), (.bool true)]) g)))))

def qcq.ann : Ann := (.seq .l (.seq (.seq .l (.two (.seq .l .l) .l)) (.seq .l (.seq (.seq .l (.two .l .l)) (.seq .l .l)))))

theorem qcq.con {g : List D.Ins} {q : OA} {s : Nat} {f : Int} {r : D.Warp × Bool} {w : World} (R : M.qgn g f) (l : r = M.qcq g f) (S : Row el84 w q g) (T : g.length ≤ s) :
    Cl 161 #[(sv q g.length s), (iv f)] w (fun U t => ∃ (C : OA) (E : Nat) (F : OA) (G : Nat), U = (.tuple #[(.agg (wC C E F G r.1)), (.bool r.2)]) ∧ Own el91 t w.heap.size C E r.1.Frames ∧ Own el3 t w.heap.size F G r.1.Regs ∧ Ext w t) := by
 have H := wp.qcq.math g f R
 have b := Ext.refl w
 refine begK mixed Tryz.f161 ann (vc q g.length s f) ?_
 unfold vc
 unfold wp.qcq at H
 refine qaL (fun a9 aa i V W => ?_)
 have i := Nat.le_trans b.size i
 have b := qa6 b W
 obtain ⟨X, H⟩ := H
 obtain ⟨Y, Z, H⟩ := qaa H
 refine (qbh.con X Z (S.ext b) T).mono ?_
 rintro _ ab ⟨rfl, I⟩
 have c := V.ext I
 have b := qa6 b I
 refine ⟨Y, rfl, ?_⟩
 apply brc H<;>intro h H
 ·refine qda c (o := 0) (cs' := #[(iv 0), (sv none 0 0), (sv none 0 0)]) rfl rfl (Nat.le_of_ble_eq_true rfl) rfl (fun ac c a0 => ?_)
  have b := echg b a0 i
  refine ⟨_, (c.a 0), _, _, _, (c.a 1), _, _, _, (c.a 2), ?_⟩
  cases l.trans H.symm
  exact ⟨none, 0, none, 0, rfl, Own.nil, Own.nil, b⟩
 obtain ⟨a1, a2, H⟩ := qaa H
 refine (qaV.con a2 ).mono ?_
 rintro _ ad ⟨rfl, J⟩
 have c := c.ext J
 have b := qa6 b J
 refine ⟨a1, rfl, ?_⟩
 apply brc H<;>intro h H
 ·refine qda c (o := 0) (cs' := #[(iv 0), (sv none 0 0), (sv none 0 0)]) rfl rfl (Nat.le_of_ble_eq_true rfl) rfl (fun ae c a3 => ?_)
  have b := echg b a3 i
  refine ⟨_, (c.a 0), _, _, _, (c.a 1), _, _, _, (c.a 2), ?_⟩
  cases l.trans H.symm
  exact ⟨none, 0, none, 0, rfl, Own.nil, Own.nil, b⟩
 obtain ⟨⟨a4, a5⟩, H⟩ := H
 refine qjR qgO a4 a5 (fun j af K L => ?_)
 have N := K.qap c.lt
 have c := c.ext L
 have d := K.mono b.size
 have b := qa6 b L
 refine qaL (fun ag ah k u v => ?_)
 have O := c.ne k
 have P := d.qaD k
 have d := d.ext v
 have e := u
 have k := Nat.le_trans b.size k
 have b := qa6 b v
 refine stB e 0 #[(iv f), (sv none 0 0), (sv (some (bx j)) ((32 : Int).toNat) ((32 : Int).toNat))] (fun ai u x => ?_)
 have c := (c.ext v).chg x O
 have y := d.chg x P
 have d := y
 have b := echg b x k
 have e := u
 apply brc H<;>intro h H
 ·refine qaz el91 ([(⟨0, (g.length : Int), 255⟩ : D.Frame)] : List D.Frame) (fun _ => by kernel_rfl) rfl (fun z aj A m => ?_)
  have a6 := A.qap c.lt
  have a7 := A.qap e.lt
  have d := d.ext m
  have e := e.ext m
  have n := A.mono b.size
  have b := qa6 b m
  refine qda e (o := 1) (cs' := #[(iv f), (sv z 1 1), (sv (some (bx j)) ((32 : Int).toNat) ((32 : Int).toNat))]) rfl rfl (Nat.le_of_ble_eq_true rfl) rfl (fun ak e p => ?_)
  have c := (c.ext m).chg p O
  have y := d.chg p P
  have a8 := n.chg p a7
  have b := echg b p k
  refine ⟨_, (e.a 0), _, _, _, (e.a 1), _, _, _, (e.a 2), ?_⟩
  refine qda c (o := 0) (cs' := #[(iv f), (sv z 1 1), (sv (some (bx j)) ((32 : Int).toNat) ((32 : Int).toNat))]) rfl rfl (Nat.le_of_ble_eq_true rfl) rfl (fun al c B => ?_)
  have d := y.chg B N
  have n := a8.chg B a6
  have b := echg b B i
  refine ⟨_, (c.a 0), _, _, _, (c.a 1), _, _, _, (c.a 2), ?_⟩
  cases l.trans H.symm
  exact ⟨z, 1, (some (bx j)), ((32 : Int).toNat), (by first | rfl | (simp; done) | (simp; omega) | (simp [*]; done)), (by first | exact n | (simp only [bC, wC, List.length_set]; exact n)), (by first | exact d | (simp only [bC, wC, List.length_set]; exact d)), b⟩
 refine ⟨_, (e.a 0), _, _, _, (e.a 1), _, _, _, (e.a 2), ?_⟩
 refine qda c (o := 0) (cs' := #[(iv f), (sv none 0 0), (sv (some (bx j)) ((32 : Int).toNat) ((32 : Int).toNat))]) rfl rfl (Nat.le_of_ble_eq_true rfl) rfl (fun am c Q => ?_)
 have d := d.chg Q N
 have b := echg b Q i
 refine ⟨_, (c.a 0), _, _, _, (c.a 1), _, _, _, (c.a 2), ?_⟩
 cases l.trans H.symm
 exact ⟨none, 0, (some (bx j)), ((32 : Int).toNat), (by first | rfl | (simp; done) | (simp; omega) | (simp [*]; done)), Own.nil, (by first | exact d | (simp only [bC, wC, List.length_set]; exact d)), b⟩
def qbw.vc (c : OA) (d e : Nat) (S : Int) (w : World) (K : VK) : Prop :=
  newK w (.cells zC 33) fun i bg => Cl 160 #[(sv c d e)] bg fun bh T => (∃ (U : Bool), bh = (.bool U) ∧ qa1 (!U) (qa5 (bx i) [(sv none 0 0), (sv none 0 0), (sv none 0 0), (iv 0), (iv 0)] 0 T fun V => ldB V (bx i) fun bi bj bk bl bm bn bo bp bq br bs => K (.tuple #[(.agg (vB bi bj bk bl bm bn bo bp bq br bs)), (.bool false)]) V) (Cl 99 #[(iv S), (iv 1), (iv 3)] T fun bt a => (∃ (W : Bool), bt = (.bool W) ∧ qa1 (!W) (qa5 (bx i) [(sv none 0 0), (sv none 0 0), (sv none 0 0), (iv 0), (iv 0)] 0 a fun X => ldB X (bx i) fun bu bv bw bz bA bB bC bD bE bF bG => K (.tuple #[(.agg (vB bu bv bw bz bA bB bC bD bE bF bG)), (.bool false)]) X) (qfo (σ := Addr × Unit) (fun f => (∃ b : Nat → Prop, ((Run Tryz.prog (Instr.buildSlice 30 0 #[]) a.drew fun bH o => ∃ (j : OA) (k l : Nat), bH = .slice j k l ∧ qab b a o ∧ ((Run Tryz.prog (Builtin.append_ #[30, 30] 30 #[(sv j k l), (sv c d e)]) o fun bI r => ∃ (s : OA) (t u : Nat), bI = .slice s t u ∧ qab b a r ∧ ((qfT Tryz.prog 24 32 32 r fun bJ Y => qab b a Y ∧ newK Y (.cells zC 33) fun Z a0 => qab b a a0 ∧ qa5 (bx Z) [(sv s t u), (sv none 0 0), (sv (some (bx bJ)) ((32 : Int).toNat) ((32 : Int).toNat)), (iv 0), (iv 0)] 0 a0 fun bK => f ((bx Z), ()) bK) ∧ (newK r (.cells zC 33) fun a1 a2 => qab b a a2 ∧ qfT Tryz.prog 24 32 32 a2 fun bL a3 => qab b a a3 ∧ qa5 (bx a1) [(sv s t u), (sv none 0 0), (sv (some (bx bL)) ((32 : Int).toNat) ((32 : Int).toNat)), (iv 0), (iv 0)] 0 a3 fun bM => f ((bx a1), ()) bM) ∧ True)) ∧ (qfT Tryz.prog 24 32 32 o fun a4 v => qab b a v ∧ ((Run Tryz.prog (Builtin.append_ #[30, 30] 30 #[(sv j k l), (sv c d e)]) v fun bN a5 => ∃ (a6 : OA) (a7 a8 : Nat), bN = .slice a6 a7 a8 ∧ qab b a a5 ∧ newK a5 (.cells zC 33) fun a9 aa => qab b a aa ∧ qa5 (bx a9) [(sv a6 a7 a8), (sv none 0 0), (sv (some (bx a4)) ((32 : Int).toNat) ((32 : Int).toNat)), (iv 0), (iv 0)] 0 aa fun bO => f ((bx a9), ()) bO) ∧ (newK v (.cells zC 33) fun ab ac => qab b a ac ∧ Run Tryz.prog (Builtin.append_ #[30, 30] 30 #[(sv j k l), (sv c d e)]) ac fun bP ad => ∃ (ae : OA) (af ag : Nat), bP = .slice ae af ag ∧ qab b a ad ∧ qa5 (bx ab) [(sv ae af ag), (sv none 0 0), (sv (some (bx a4)) ((32 : Int).toNat) ((32 : Int).toNat)), (iv 0), (iv 0)] 0 ad fun bQ => f ((bx ab), ()) bQ) ∧ True)) ∧ (newK o (.cells zC 33) fun p x => qab b a x ∧ ((Run Tryz.prog (Builtin.append_ #[30, 30] 30 #[(sv j k l), (sv c d e)]) x fun bR ah => ∃ (ai : OA) (aj ak : Nat), bR = .slice ai aj ak ∧ qab b a ah ∧ qfT Tryz.prog 24 32 32 ah fun bS al => qab b a al ∧ qa5 (bx p) [(sv ai aj ak), (sv none 0 0), (sv (some (bx bS)) ((32 : Int).toNat) ((32 : Int).toNat)), (iv 0), (iv 0)] 0 al fun bT => f ((bx p), ()) bT) ∧ (qfT Tryz.prog 24 32 32 x fun bU am => qab b a am ∧ Run Tryz.prog (Builtin.append_ #[30, 30] 30 #[(sv j k l), (sv c d e)]) am fun bV an => ∃ (ao : OA) (ap aq : Nat), bV = .slice ao ap aq ∧ qab b a an ∧ qa5 (bx p) [(sv ao ap aq), (sv none 0 0), (sv (some (bx bU)) ((32 : Int).toNat) ((32 : Int).toNat)), (iv 0), (iv 0)] 0 an fun bW => f ((bx p), ()) bW) ∧ True)) ∧ True)) ∧ (qfT Tryz.prog 24 32 32 a.drew fun y z => qab b a z ∧ ((Run Tryz.prog (Instr.buildSlice 30 0 #[]) z fun bX A => ∃ (B : OA) (C D : Nat), bX = .slice B C D ∧ qab b a A ∧ ((Run Tryz.prog (Builtin.append_ #[30, 30] 30 #[(sv B C D), (sv c d e)]) A fun bY ar => ∃ (au : OA) (av aw : Nat), bY = .slice au av aw ∧ qab b a ar ∧ newK ar (.cells zC 33) fun ax ay => qab b a ay ∧ qa5 (bx ax) [(sv au av aw), (sv none 0 0), (sv (some (bx y)) ((32 : Int).toNat) ((32 : Int).toNat)), (iv 0), (iv 0)] 0 ay fun bZ => f ((bx ax), ()) bZ) ∧ (newK A (.cells zC 33) fun az aA => qab b a aA ∧ Run Tryz.prog (Builtin.append_ #[30, 30] 30 #[(sv B C D), (sv c d e)]) aA fun c1 aB => ∃ (aC : OA) (aD aE : Nat), c1 = .slice aC aD aE ∧ qab b a aB ∧ qa5 (bx az) [(sv aC aD aE), (sv none 0 0), (sv (some (bx y)) ((32 : Int).toNat) ((32 : Int).toNat)), (iv 0), (iv 0)] 0 aB fun c2 => f ((bx az), ()) c2) ∧ True)) ∧ (newK z (.cells zC 33) fun aF aG => qab b a aG ∧ Run Tryz.prog (Instr.buildSlice 30 0 #[]) aG fun c3 aH => ∃ (aI : OA) (aJ aK : Nat), c3 = .slice aI aJ aK ∧ qab b a aH ∧ Run Tryz.prog (Builtin.append_ #[30, 30] 30 #[(sv aI aJ aK), (sv c d e)]) aH fun c4 aL => ∃ (aM : OA) (aN aO : Nat), c4 = .slice aM aN aO ∧ qab b a aL ∧ qa5 (bx aF) [(sv aM aN aO), (sv none 0 0), (sv (some (bx y)) ((32 : Int).toNat) ((32 : Int).toNat)), (iv 0), (iv 0)] 0 aL fun c5 => f ((bx aF), ()) c5) ∧ True)) ∧ (newK a.drew (.cells zC 33) fun m E => qab b a E ∧ ((Run Tryz.prog (Instr.buildSlice 30 0 #[]) E fun c6 F => ∃ (G : OA) (H I : Nat), c6 = .slice G H I ∧ qab b a F ∧ ((Run Tryz.prog (Builtin.append_ #[30, 30] 30 #[(sv G H I), (sv c d e)]) F fun c7 aP => ∃ (aQ : OA) (aR aS : Nat), c7 = .slice aQ aR aS ∧ qab b a aP ∧ qfT Tryz.prog 24 32 32 aP fun c8 aT => qab b a aT ∧ qa5 (bx m) [(sv aQ aR aS), (sv none 0 0), (sv (some (bx c8)) ((32 : Int).toNat) ((32 : Int).toNat)), (iv 0), (iv 0)] 0 aT fun c9 => f ((bx m), ()) c9) ∧ (qfT Tryz.prog 24 32 32 F fun ca aU => qab b a aU ∧ Run Tryz.prog (Builtin.append_ #[30, 30] 30 #[(sv G H I), (sv c d e)]) aU fun cb aV => ∃ (aW : OA) (aX aY : Nat), cb = .slice aW aX aY ∧ qab b a aV ∧ qa5 (bx m) [(sv aW aX aY), (sv none 0 0), (sv (some (bx ca)) ((32 : Int).toNat) ((32 : Int).toNat)), (iv 0), (iv 0)] 0 aV fun cc => f ((bx m), ()) cc) ∧ True)) ∧ (qfT Tryz.prog 24 32 32 E fun cd aZ => qab b a aZ ∧ Run Tryz.prog (Instr.buildSlice 30 0 #[]) aZ fun ce b0 => ∃ (b1 : OA) (b2 b3 : Nat), ce = .slice b1 b2 b3 ∧ qab b a b0 ∧ Run Tryz.prog (Builtin.append_ #[30, 30] 30 #[(sv b1 b2 b3), (sv c d e)]) b0 fun cf b4 => ∃ (b5 : OA) (b6 b7 : Nat), cf = .slice b5 b6 b7 ∧ qab b a b4 ∧ qa5 (bx m) [(sv b5 b6 b7), (sv none 0 0), (sv (some (bx cd)) ((32 : Int).toNat) ((32 : Int).toNat)), (iv 0), (iv 0)] 0 b4 fun cg => f ((bx m), ()) cg) ∧ True)) ∧ True))) fun g ch => qdh (σ := Int × Unit) (fun J h ci => qa1 (decide (J.1 < S)) (Cl 161 #[(sv c d e), (iv J.1)] h fun cj ck => (∃ cl : Value, (∃ (L : Int), True ∧ ∃ (M : OA) (N O : Nat), True ∧ ∃ (P : OA) (Q R : Nat), True ∧ cl = (.agg #[(iv L), (sv M N O), (sv P Q R)]) ∧ ∃ cm : Value, (∃ (b8 : Bool), cm = (.bool b8) ∧ cj = (.tuple #[(.agg #[(iv L), (sv M N O), (sv P Q R)]), (.bool b8)]) ∧ newK ck (.cells #[(iv 0), (sv none 0 0), (sv none 0 0)] 52) fun q cn => qa5 (bx q) [(iv L), (sv M N O), (sv P Q R)] 0 cn fun n => ldS n ((g.1.add 1).add 0) fun co cp cq => ldI n ((bx q).add 0) fun cr => ldS n ((bx q).add 1) fun cs ct cu => ldS n ((bx q).add 2) fun cv cw cx => Run Tryz.prog (Instr.buildSlice 31 1 #[(0, (.agg #[(iv cr), (sv cs ct cu), (sv cv cw cx)]))]) n fun cy cz => ∃ (b9 : OA) (ba bb : Nat), cy = .slice b9 ba bb ∧ Run Tryz.prog (Builtin.append_ #[31, 31] 31 #[(sv co cp cq), (sv b9 ba bb)]) cz fun cA cB => ∃ (bc : OA) (bd be : Nat), cA = .slice bc bd be ∧ qa5 (g.1.add 1) [(sv bc bd be)] 0 cB fun cC => ci ((wrap .i64 (J.1 + 1)), ()) cC)))) (ldS h (g.1.add 0) fun cD cE cF => ldS h (g.1.add 1) fun cG cH cI => ldS h (g.1.add 2) fun cJ cK cL => ldI h (g.1.add 3) fun cM => ldI h (g.1.add 4) fun cN => qa5 (bx i) [(sv cD cE cF), (sv cG cH cI), (sv cJ cK cL), (iv cM), (iv cN)] 0 h fun bf => ldB bf (bx i) fun cO cP cQ cR cS cT cU cV cW cX cY => K (.tuple #[(.agg (vB cO cP cQ cR cS cT cU cV cW cX cY)), (.bool true)]) bf)) (0, ()) ch))))

def qbw.ann : Ann := (.seq .l (.seq (.seq .l (.two (.seq .l .l) .l)) (.cut [(6, .ptr)] .l (.seq (.seq .l (.one (.loop [(7, .int .i64)] (.seq (.seq .l (.two .l .l)) (.seq (.one (.seq .l .l)) .l))))) (.seq .l .l)))))

theorem qbw.con {u : List D.Ins} {A0 : OA} {c0 : Nat} {W : Int} {r : D.Block × Bool} {w : World} (hp : M.qg9 u W) (hr : r = M.qbw u W) (R0 : Row el84 w A0 u) (al : u.length ≤ c0) :
    Cl 115 #[(sv A0 u.length c0), (iv W)] w (fun v_ l => ∃ (am : OA) (an : Nat) (ad : OA) (ao : Nat) (ap : Nat → Prop) (ae : OA) (aq : Nat), v_ = (.tuple #[(.agg (bC am an ad ao ae aq r.1)), (.bool r.2)]) ∧ Own el84 l w.heap.size am an r.1.Code ∧ OwnW 52 el91 el3 l w.heap.size ap ad ao r.1.Warps ∧ Own el3 l w.heap.size ae aq r.1.Memory ∧ Dis (InW ad ap) (InB ae) ∧ Ext w l) := by
 have H := wp.qbw.math u W hp
 have c := Ext.refl w
 refine begK mixed Tryz.f115 ann (vc A0 u.length c0 W) ?_
 unfold vc
 unfold wp.qbw at H
 refine qaL (fun af bo X P2 aC => ?_)
 have X := Nat.le_trans c.size X
 have c := qa6 c aC
 obtain ⟨aD, H⟩ := H
 obtain ⟨aE, aF, H⟩ := qaa H
 refine (qbh.con aD aF (R0.ext c) al).mono ?_
 rintro _ bp ⟨rfl, ar⟩
 have b := P2.ext ar
 have c := qa6 c ar
 refine ⟨aE, rfl, ?_⟩
 apply brc H<;>intro h H
 ·refine qda b (o := 0) (cs' := zC) rfl rfl (Nat.le_of_ble_eq_true rfl) rfl (fun bq b aG => ?_)
  have c := echg c aG X
  refine ⟨_, _, _, (b.a 0), _, _, _, (b.a 1), _, _, _, (b.a 2), _, (b.a 3), _, (b.a 4), ?_⟩
  cases hr.trans H.symm
  exact ⟨none, 0, none, 0, (fun _ => False), none, 0, rfl, Own.nil, OwnW.nil, Own.nil, qiv, c⟩
 obtain ⟨aH, aI, H⟩ := qaa H
 refine (qaV.con aI ).mono ?_
 rintro _ aJ ⟨rfl, au⟩
 have b := b.ext au
 have c := qa6 c au
 refine ⟨aH, rfl, ?_⟩
 apply brc H<;>intro h H
 ·refine qda b (o := 0) (cs' := zC) rfl rfl (Nat.le_of_ble_eq_true rfl) rfl (fun br b aK => ?_)
  have c := echg c aK X
  refine ⟨_, _, _, (b.a 0), _, _, _, (b.a 1), _, _, _, (b.a 2), _, (b.a 3), _, (b.a 4), ?_⟩
  cases hr.trans H.symm
  exact ⟨none, 0, none, 0, (fun _ => False), none, 0, rfl, Own.nil, OwnW.nil, Own.nil, qiv, c⟩
 obtain ⟨aL, aM, H⟩ := qd9 H
 refine ⟨fun z_ l => ∃ (v : List D.Ins) (Y : List D.Warp) (x : List Int) (a3 a4 : Int) (O : Nat) (y : OA) (z : Nat) (Z : OA) (a5 : Nat) (a6 : Nat → Prop) (n : OA) (A : Nat), z_ = ((bx O), ()) ∧ aL (v, Y, x, a3, a4, ()) ∧ Ext w l ∧ Blk l O 33 #[(sv y v.length z), (sv Z Y.length a5), (sv n x.length A), (iv a3), (iv a4)] ∧ w.heap.size ≤ O ∧ Own el84 l w.heap.size y z v ∧ OwnW 52 el91 el3 l w.heap.size a6 Z a5 Y ∧ Own el3 l w.heap.size n A x ∧ Blk l af 33 zC ∧ af ≠ O ∧ Dis (InW Z a6) (InB n), ?_, ?_⟩
 ·refine ⟨(fun _ => False), ?_⟩
  have hS := (Chg.refl (fun _ => False) aJ).then (Ext.drew _)
  have b := b.ext (Ext.drew _)
  have c := qa6 c (Ext.drew _)
  repeat' first
  |with_reducible exact trivial
  |(with_reducible show qab _ _ _ ∧ _; refine ⟨qaw hS, ?_⟩)
  |(with_reducible show _ ∧ _; refine And.imp ?_ ?_ H <;> intro H)
  |(with_reducible show Run _ (Instr.buildSlice 30 _ _) _ _
    refine qaz el84 ([] : List D.Ins) (fun _ => by kernel_rfl) rfl (fun A1 w1 P1 e => ?_)
    have B1 := (P1.mono hS.size).low
    have m := P1.mono c.size
    have b := b.ext e
    try have s := s.ext e
    try have p := p.ext e
    have hS := hS.then e
    have c := qa6 c e)
  |(with_reducible show qfT _ _ _ _ _ _
    obtain ⟨⟨h0, h1⟩, H⟩ := H
    refine qjR qgO h0 h1 (fun g3 w1 P3 e => ?_)
    have s := P3.mono c.size
    have b := b.ext e
    try have m := m.ext e
    try have p := p.ext e
    have hS := hS.then e
    have c := qa6 c e)
  |(with_reducible show newK _ _ _
    refine qaL (fun g4 w1 L4 P4 e => ?_)
    have N4 := b.ne L4
    have L4 := Nat.le_trans c.size L4
    have p := P4
    have b := b.ext e
    try have m := m.ext e
    try have s := s.ext e
    have hS := hS.then e
    have c := qa6 c e)
  |(with_reducible show Run _ (Builtin.append_ _ 30 _) _ _
    obtain ⟨hl, H⟩ := H
    refine appO qgL m (R0.ext c) c.size hl (fun A1 c1 w1 P1 e => ?_)
    have b := b.app e (m.qa3 b (by decide))
    try have s := s.app e (Own.qai s m (by decide))
    try have p := p.app e (m.qa3 p (by decide))
    have hS := hS.app e (fun g h => .inl (B1 g h))
    have c := eapp c e m
    have m := P1)
  |(with_reducible show qa5 _ _ _ _ _
    have av := p
    refine qda p (o := 0) (cs' := #[(sv A1 (([] : List D.Ins) ++ u).length c1), (sv none 0 0), (sv (some (bx g3)) ((32 : Int).toNat) ((32 : Int).toNat)), (iv 0), (iv 0)]) rfl rfl (Nat.le_of_ble_eq_true rfl) rfl (fun w1 p e => ?_)
    have b := b.chg e N4
    have m := m.chg e (m.qa3 av (by decide))
    exact ⟨_, [], _, 0, 0, g4, A1, c1, none, 0, (fun _ => False), (some (bx g3)), _, rfl, H, echg c e L4, p, L4, m, OwnW.nil, s.chg e (s.qa3 av (by decide)), b, N4, qiv⟩)
 rintro _ bs ⟨v, Y, x, a3, a4, O, y, z, Z, a5, a6, n, A, rfl, H, c, j, aO, k, aP, f, b, aQ, aR⟩
 have H := aM _ H
 try dsimp only at H ⊢
 obtain ⟨aS, ⟨aT, aU⟩, aw⟩ := H
 refine ⟨fun m_ z_ l => ∃ (ag : Int) (P : List D.Warp) (Q R : Int) (I : OA) (a0 : Nat) (S : Nat → Prop), z_ = (ag, ()) ∧ aS m_ (ag, P, Q, R, ()) ∧ Ext w l ∧ Blk l O 33 #[(sv y v.length z), (sv I P.length a0), (sv n x.length A), (iv Q), (iv R)] ∧ OwnW 52 el91 el3 l w.heap.size S I a0 P ∧ Blk l af 33 zC ∧ Own el84 l w.heap.size y z v ∧ Own el3 l w.heap.size n A x ∧ Dis (InW I S) (InB n), ⟨aT, 0, Y, a3, a4, Z, a5, a6, rfl, aU, c, j, aP, b, k, f, aR⟩, ?_⟩
 rintro aV _ bt ⟨ag, P, Q, R, I, a0, S, rfl, ax, c, j, d, b, k, f, a1⟩
 have H := aw aV _ ax
 clear aw ax
 try dsimp only at H ⊢
 apply brc H<;>intro h H
 ·obtain ⟨aW, H⟩ := H
  obtain ⟨t, aX, H⟩ := qaa H
  refine (qcq.con aW aX (R0.ext c) al).mono ?_
  rintro _ bu ⟨B, a7, C, a8, rfl, ah, ai, T⟩
  have aY := aN f ah
  have aZ := d.qf8 ah (Nat.le_refl _)
  have b0 := aN f ai
  have b1 := d.qf8 ai (Nat.le_refl _)
  have b := b.ext T
  have j := j.ext T
  have k := k.ext T
  have f := f.ext T
  have d := d.ext T
  have a9 := ah.mono c.size
  have aa := ai.mono c.size
  have c := qa6 c T
  refine ⟨(.agg (wC B a7 C a8 t.1)), t.1.Number, trivial, B, t.1.Frames.length, a7, trivial, C, t.1.Regs.length, a8, trivial, rfl, (.bool t.2), t.2, rfl, rfl, ?_⟩
  refine qaL (fun b2 bv q b3 E => ?_)
  have b4 := b.ne q
  have b5 := j.ne q
  have b6 := k.qaD q
  have b7 := f.qaD q
  have b8 := d.qdp q
  have ay := a9.qaD q
  have az := aa.qaD q
  have b := b.ext E
  have k := k.ext E
  have f := f.ext E
  have d := d.ext E
  have U := b3
  have q := Nat.le_trans c.size q
  have c := qa6 c E
  refine qda U (o := 0) (cs' := (wC B a7 C a8 t.1)) rfl rfl (Nat.le_of_ble_eq_true rfl) rfl (fun bw U F => ?_)
  have b9 := b.chg F b4
  have j := (j.ext E).chg F b5
  have ba := k.chg F b6
  have bb := f.chg F b7
  have bc := d.chg F b8
  have a9 := (a9.ext E).chg F ay
  have aa := (aa.ext E).chg F az
  have f := bb
  have d := bc
  have c := echg c F q
  refine ⟨_, _, _, (j.a 1), _, (U.a 0), _, _, _, (U.a 1), _, _, _, (U.a 2), ?_⟩
  refine qaz (elH 52) ([⟨t.1, B, a7, C, a8⟩] : List HW) (fun _ => by kernel_rfl) rfl (fun aj bz ab G => ?_)
  have bd : OwnW 52 el91 el3 _ _ _ _ _ _ := OwnW.one (ab.mono c.size) (a9.ext G) (aa.ext G)
  have be : Dis (InW aj (fun g => InB B g ∨ InB C g)) (InB n) := fun g i J => i.elim (fun i => (Own.qev f ab (Nat.le_refl _)).inb g J i) (fun i => i.elim (fun i => ((aY).symm).inb g i J) (fun i => ((b0).symm).inb g i J))
  have bf : Dis (InW aj (fun g => InB B g ∨ InB C g)) (InW I S) := fun g i J => i.elim (fun i => d.qf8 ab (Nat.le_refl _) g J i) (fun i => i.elim (fun i => aZ g J i) (fun i => b1 g J i))
  have bA : ¬ InW aj (fun g => InB B g ∨ InB C g) b2 := fun i => i.elim (fun i => ab.qap U.lt |>.inb i) (fun i => i.elim (ay).inb (az).inb)
  have b := b9.ext G
  have j := j.ext G
  have k := ba.ext G
  have f := f.ext G
  have d := d.ext G
  have bg := bd
  have c := qa6 c G
  obtain ⟨bh, H⟩ := H
  refine qm1 qnx qnx.under d bg (bf).symm (by decide) (by decide) c.size rfl (by first | rfl | omega | (simp; done) | (simp; omega)) bh (fun aA aB bB bi V => ?_)
  have b := b.app V (fun K L N => (d.qd0 b (by decide) (by decide) (by decide)) (Or.inl ⟨K, L, N⟩))
  have j := j.app V (fun K L N => (d.qd0 j (by decide) (by decide) (by decide)) (Or.inl ⟨K, L, N⟩))
  have k := k.app V (fun K b_ L N ak => (d.qfe k (by decide) (by decide) (by decide)) _ (Or.inl ⟨b_, N, rfl⟩) ⟨K, L, ak⟩)
  have bj := qmr a1 be V f
  have f := f.app V (fun K b_ L N ak => a1 _ (Or.inl ⟨b_, N, rfl⟩) ⟨K, L, ak⟩)
  have a1 := bj
  have c := qph c V d
  have d := bi
  refine stB j 1 #[(sv y v.length z), (sv aA (((P ++ ([t.1] : List D.Warp))).length) aB), (sv n x.length A), (iv Q), (iv R)] (fun bD bk a2 => ?_)
  have b := b.chg a2 aQ
  have k := k.chg a2 (k.qa3 j (by decide))
  have f := f.chg a2 (f.qa3 j (by decide))
  have d := d.chg a2 (d.qd0 j (by decide) (by decide) (by decide))
  have c := echg c a2 aO
  have j := bk
  obtain ⟨bl, bm, bn⟩ := H
  exact ⟨bl, bm, _, _, Q, R, aA, aB, (fun g => S g ∨ (fun g => InB B g ∨ InB C g) g), rfl, bn, c, j, d, b, k, f, a1⟩
 refine ⟨_, _, _, (j.a 0), _, _, _, (j.a 1), _, _, _, (j.a 2), _, (j.a 3), _, (j.a 4), ?_⟩
 refine stB b 0 #[(sv y v.length z), (sv I P.length a0), (sv n x.length A), (iv Q), (iv R)] (fun bE P2 ac => ?_)
 have k := k.chg ac (k.qa3 b (by decide))
 have f := f.chg ac (f.qa3 b (by decide))
 have d := d.chg ac (d.qd0 b (by decide) (by decide) (by decide))
 have c := echg c ac X
 have b := P2
 refine ⟨_, _, _, (b.a 0), _, _, _, (b.a 1), _, _, _, (b.a 2), _, (b.a 3), _, (b.a 4), ?_⟩
 cases hr.trans H.symm
 exact ⟨y, z, I, a0, S, n, A, rfl, k, d, f, a1, c⟩
def qao.vc (a : OA) (h i : Nat) (w : World) (K : VK) : Prop :=
  qa1 (Option.isNone a) (K (sv none 0 0) w) (Run Tryz.prog (Instr.buildSlice 30 0 #[]) w fun j k => ∃ (b : OA) (c d : Nat), j = .slice b c d ∧ Run Tryz.prog (Builtin.append_ #[30, 30] 30 #[(sv b c d), (sv a h i)]) k fun l m => ∃ (e : OA) (f g : Nat), l = .slice e f g ∧ K (sv e f g) m)

def qao.ann : Ann := (.seq .l (.seq (.seq .l (.two (.seq .l .l) .l)) (.seq .l .l)))

theorem qao.con {b r : List D.Ins} {c : OA} {e : Nat} {w : World} (n : M.qbS b) (g : r = M.qao b) (i : Row el84 w c b) (z : b.length ≤ e) :
    Cl 127 #[(sv c b.length e)] w (fun o j => ∃ (k : OA) (l : Nat), o = (sv k r.length l) ∧ Own el84 j w.heap.size k l r ∧ Ext w j) := by
 have H := wp.qao.math b n
 have a := Ext.refl w
 refine begK mixed Tryz.f127 ann (vc c b.length e) ?_
 unfold vc
 unfold wp.qao at H
 obtain ⟨p, m⟩ : ∃ q, q = Option.isNone c := ⟨_, rfl⟩
 have H := H p (fun s => Row.isNone (i.ext a) (m.symm.trans s))
 rw [← m]
 apply brc H<;>intro h H
 ·cases g.trans H.symm
  exact ⟨none, 0, rfl, Own.nil, a⟩
 refine qaz el84 ([] : List D.Ins) (fun _ => by kernel_rfl) rfl (fun A B f t => ?_)
 have d := f.mono a.size
 have a := qa6 a t
 obtain ⟨u, H⟩ := H
 refine appO qgL d (i.ext a) a.size u (fun v x C f y => ?_)
 have a := eapp a y d
 have d := f
 cases g.trans H.symm
 exact ⟨v, x, rfl, d, a⟩
def qcd.vc (a8 : Int) (a9 : OA) (aa ab : Nat) (ac : OA) (ad ae : Nat) (w : World) (K : VK) : Prop :=
  newK w (.cells #[(iv a8), (sv a9 aa ab), (sv ac ad ae)] 52) fun g af => newK af (.cells #[(iv 0), (sv none 0 0), (sv none 0 0)] 52) fun c a => (∃ b : Nat → Prop, ldIM b a ((bx g).add 0) 0 fun h => ldSM b a ((bx g).add 1) 0 fun i j k => ldSM b a ((bx g).add 2) 0 fun l m n => ((Run Tryz.prog (Instr.buildSlice 50 0 #[]) a.drew fun ag o => ∃ (p : OA) (q r : Nat), ag = .slice p q r ∧ qab b a o ∧ ((Run Tryz.prog (Builtin.append_ #[50, 50] 50 #[(sv p q r), (sv i j k)]) o fun ah s => ∃ (t : OA) (u v : Nat), ah = .slice t u v ∧ qab b a s ∧ Run Tryz.prog (Instr.buildSlice 24 0 #[]) s fun ai x => ∃ (y : OA) (z A : Nat), ai = .slice y z A ∧ qab b a x ∧ Run Tryz.prog (Builtin.append_ #[24, 24] 24 #[(sv y z A), (sv l m n)]) x fun aj B => ∃ (C : OA) (D E : Nat), aj = .slice C D E ∧ qab b a B ∧ qa5 (bx c) [(iv h), (sv t u v), (sv C D E)] 0 B fun d => ldI d ((bx c).add 0) fun ak => ldS d ((bx c).add 1) fun al am an => ldS d ((bx c).add 2) fun ao ap aq => K (.agg #[(iv ak), (sv al am an), (sv ao ap aq)]) d) ∧ (Run Tryz.prog (Instr.buildSlice 24 0 #[]) o fun ar F => ∃ (G : OA) (H I : Nat), ar = .slice G H I ∧ qab b a F ∧ Run Tryz.prog (Builtin.append_ #[50, 50] 50 #[(sv p q r), (sv i j k)]) F fun au J => ∃ (L : OA) (M N : Nat), au = .slice L M N ∧ qab b a J ∧ Run Tryz.prog (Builtin.append_ #[24, 24] 24 #[(sv G H I), (sv l m n)]) J fun av O => ∃ (P : OA) (Q R : Nat), av = .slice P Q R ∧ qab b a O ∧ qa5 (bx c) [(iv h), (sv L M N), (sv P Q R)] 0 O fun e => ldI e ((bx c).add 0) fun aw => ldS e ((bx c).add 1) fun ax ay az => ldS e ((bx c).add 2) fun aA aB aC => K (.agg #[(iv aw), (sv ax ay az), (sv aA aB aC)]) e) ∧ True)) ∧ (Run Tryz.prog (Instr.buildSlice 24 0 #[]) a.drew fun aD S => ∃ (T : OA) (U V : Nat), aD = .slice T U V ∧ qab b a S ∧ Run Tryz.prog (Instr.buildSlice 50 0 #[]) S fun aE W => ∃ (X : OA) (Y Z : Nat), aE = .slice X Y Z ∧ qab b a W ∧ Run Tryz.prog (Builtin.append_ #[50, 50] 50 #[(sv X Y Z), (sv i j k)]) W fun aF a0 => ∃ (a1 : OA) (a2 a3 : Nat), aF = .slice a1 a2 a3 ∧ qab b a a0 ∧ Run Tryz.prog (Builtin.append_ #[24, 24] 24 #[(sv T U V), (sv l m n)]) a0 fun aG a4 => ∃ (a5 : OA) (a6 a7 : Nat), aG = .slice a5 a6 a7 ∧ qab b a a4 ∧ qa5 (bx c) [(iv h), (sv a1 a2 a3), (sv a5 a6 a7)] 0 a4 fun f => ldI f ((bx c).add 0) fun aH => ldS f ((bx c).add 1) fun aI aJ aK => ldS f ((bx c).add 2) fun aL aM aN => K (.agg #[(iv aH), (sv aI aJ aK), (sv aL aM aN)]) f) ∧ True))

def qcd.ann : Ann := (.seq .l (.seq .l .l))

theorem qcd.con {d r : D.Warp} {m n : OA} {p q : Nat} {w : World} (J : M.qeI d) (K : r = M.qcd d) (L : Row el91 w m d.Frames) (U : d.Frames.length ≤ p) (N : Row el3 w n d.Regs) (V : d.Regs.length ≤ q) :
    Cl 221 #[(.agg (wC m p n q d))] w (fun O s => ∃ (z : OA) (A : Nat) (B : OA) (C : Nat), O = (.agg (wC z A B C r)) ∧ Own el91 s w.heap.size z A r.Frames ∧ Own el3 s w.heap.size B C r.Regs ∧ Ext w s) := by
 have H := wp.qcd.math d J
 refine begK mixed Tryz.f221 ann (vc d.Number m d.Frames.length p n d.Regs.length q) ?_
 unfold vc
 unfold wp.qcd at H
 refine qaL (fun W X Y j P => ?_)
 have b := qa6 (Ext.refl w) P
 refine qaL (fun Z Q t R E => ?_)
 have j := j.ext E
 have c := R
 have t := Nat.le_trans b.size t
 have b := qa6 b E
 refine ⟨(fun _ => False), _, noM (j.a 0), _, _, _, noM (j.a 1), _, _, _, noM (j.a 2), ?_⟩
 have hS := (Chg.refl (fun _ => False) Q).then (Ext.drew _)
 have c := c.ext (Ext.drew _)
 have b := qa6 b (Ext.drew _)
 repeat' first
 |with_reducible exact trivial
 |(with_reducible show qab _ _ _ ∧ _; refine ⟨qaw hS, ?_⟩)
 |(with_reducible show _ ∧ _; refine And.imp ?_ ?_ H <;> intro H)
 |(with_reducible show Run _ (Instr.buildSlice 50 _ _) _ _
   refine qaz el91 ([] : List D.Frame) (fun _ => by kernel_rfl) rfl (fun u v k e => ?_)
   have S := (k.mono hS.size).low
   have f := k.mono b.size
   have c := c.ext e
   try have i := i.ext e
   have hS := hS.then e
   have b := qa6 b e)
 |(with_reducible show Run _ (Instr.buildSlice 24 _ _) _ _
   refine qaz el3 ([] : List Int) (fun _ => by kernel_rfl) rfl (fun x v l e => ?_)
   have T := (l.mono hS.size).low
   have i := l.mono b.size
   have c := c.ext e
   try have f := f.ext e
   have hS := hS.then e
   have b := qa6 b e)
 |(with_reducible show Run _ (Builtin.append_ _ 50 _) _ _
   obtain ⟨y, H⟩ := H
   refine appO qla f (L.ext b) b.size y (fun u F v k e => ?_)
   have c := c.app e (f.qa3 c (by decide))
   try have i := i.app e (Own.qai i f (by decide))
   have hS := hS.app e (fun g h => .inl (S g h))
   have b := eapp b e f
   have f := k)
 |(with_reducible show Run _ (Builtin.append_ _ 24 _) _ _
   obtain ⟨y, H⟩ := H
   refine appO qgO i (N.ext b) b.size y (fun x G v l e => ?_)
   have c := c.app e (i.qa3 c (by decide))
   try have f := f.app e (Own.qai f i (by decide))
   have hS := hS.app e (fun g h => .inl (T g h))
   have b := eapp b e i
   have i := l)
 |(with_reducible show qa5 _ _ _ _ _
   have I := c
   refine qda c (o := 0) (cs' := #[(iv d.Number), (sv u (([] : List D.Frame) ++ d.Frames).length F), (sv x (([] : List Int) ++ d.Regs).length G)]) rfl rfl (Nat.le_of_ble_eq_true rfl) rfl (fun a0 c e => ?_)
   refine ⟨_, (c.a 0), _, _, _, (c.a 1), _, _, _, (c.a 2), ?_⟩
   cases K.trans H.symm
   exact ⟨u, F, x, G, rfl, f.chg e (f.qa3 I (by decide)), i.chg e (i.qa3 I (by decide)), echg b e t⟩)
def qdq.vc (cN : OA) (cO cP : Nat) (cQ : OA) (cR cS : Nat) (cT : OA) (cU cV : Nat) (cW cX : Int) (w : World) (K : VK) : Prop :=
  newK w (.cells (vB cN cO cP cQ cR cS cT cU cV cW cX) 33) fun o cY => newK cY (.cells zC 33) fun a7 a => qfo (σ := Addr × Unit) (fun d => (∃ b : Nat → Prop, ldSM b a ((bx o).add 0) 0 fun j k l => ldSM b a ((bx o).add 2) 0 fun e f g => ldIM b a ((bx o).add 3) 0 fun h => ldIM b a ((bx o).add 4) 0 fun i => ((Run Tryz.prog (Instr.buildSlice 30 0 #[]) a.drew fun cZ y => ∃ (p : OA) (q r : Nat), cZ = .slice p q r ∧ qab b a y ∧ ((Run Tryz.prog (Builtin.append_ #[30, 30] 30 #[(sv p q r), (sv j k l)]) y fun d0 G => ∃ (z : OA) (A B : Nat), d0 = .slice z A B ∧ qab b a G ∧ ((Run Tryz.prog (Instr.buildSlice 24 0 #[]) G fun d1 H => ∃ (I : OA) (J L : Nat), d1 = .slice I J L ∧ qab b a H ∧ ((Run Tryz.prog (Builtin.append_ #[24, 24] 24 #[(sv I J L), (sv e f g)]) H fun d2 a8 => ∃ (a9 : OA) (aa ab : Nat), d2 = .slice a9 aa ab ∧ qab b a a8 ∧ newK a8 (.cells zC 33) fun ac ad => qab b a ad ∧ qa5 (bx ac) [(sv z A B), (sv none 0 0), (sv a9 aa ab), (iv h), (iv i)] 0 ad fun d3 => d ((bx ac), ()) d3) ∧ (newK H (.cells zC 33) fun ae af => qab b a af ∧ Run Tryz.prog (Builtin.append_ #[24, 24] 24 #[(sv I J L), (sv e f g)]) af fun d4 ag => ∃ (ah : OA) (ai aj : Nat), d4 = .slice ah ai aj ∧ qab b a ag ∧ qa5 (bx ae) [(sv z A B), (sv none 0 0), (sv ah ai aj), (iv h), (iv i)] 0 ag fun d5 => d ((bx ae), ()) d5) ∧ True)) ∧ (newK G (.cells zC 33) fun ak al => qab b a al ∧ Run Tryz.prog (Instr.buildSlice 24 0 #[]) al fun d6 am => ∃ (an : OA) (ao ap : Nat), d6 = .slice an ao ap ∧ qab b a am ∧ Run Tryz.prog (Builtin.append_ #[24, 24] 24 #[(sv an ao ap), (sv e f g)]) am fun d7 aq => ∃ (ar : OA) (au av : Nat), d7 = .slice ar au av ∧ qab b a aq ∧ qa5 (bx ak) [(sv z A B), (sv none 0 0), (sv ar au av), (iv h), (iv i)] 0 aq fun d8 => d ((bx ak), ()) d8) ∧ True)) ∧ (Run Tryz.prog (Instr.buildSlice 24 0 #[]) y fun d9 M => ∃ (C : OA) (D E : Nat), d9 = .slice C D E ∧ qab b a M ∧ ((Run Tryz.prog (Builtin.append_ #[30, 30] 30 #[(sv p q r), (sv j k l)]) M fun da N => ∃ (O : OA) (P Q : Nat), da = .slice O P Q ∧ qab b a N ∧ ((Run Tryz.prog (Builtin.append_ #[24, 24] 24 #[(sv C D E), (sv e f g)]) N fun db aw => ∃ (ax : OA) (ay az : Nat), db = .slice ax ay az ∧ qab b a aw ∧ newK aw (.cells zC 33) fun aA aB => qab b a aB ∧ qa5 (bx aA) [(sv O P Q), (sv none 0 0), (sv ax ay az), (iv h), (iv i)] 0 aB fun dc => d ((bx aA), ()) dc) ∧ (newK N (.cells zC 33) fun aC aD => qab b a aD ∧ Run Tryz.prog (Builtin.append_ #[24, 24] 24 #[(sv C D E), (sv e f g)]) aD fun dd aE => ∃ (aF : OA) (aG aH : Nat), dd = .slice aF aG aH ∧ qab b a aE ∧ qa5 (bx aC) [(sv O P Q), (sv none 0 0), (sv aF aG aH), (iv h), (iv i)] 0 aE fun de => d ((bx aC), ()) de) ∧ True)) ∧ (newK M (.cells zC 33) fun aI aJ => qab b a aJ ∧ Run Tryz.prog (Builtin.append_ #[30, 30] 30 #[(sv p q r), (sv j k l)]) aJ fun df aK => ∃ (aL : OA) (aM aN : Nat), df = .slice aL aM aN ∧ qab b a aK ∧ Run Tryz.prog (Builtin.append_ #[24, 24] 24 #[(sv C D E), (sv e f g)]) aK fun dg aO => ∃ (aP : OA) (aQ aR : Nat), dg = .slice aP aQ aR ∧ qab b a aO ∧ qa5 (bx aI) [(sv aL aM aN), (sv none 0 0), (sv aP aQ aR), (iv h), (iv i)] 0 aO fun dh => d ((bx aI), ()) dh) ∧ True)) ∧ (newK y (.cells zC 33) fun F R => qab b a R ∧ ((Run Tryz.prog (Builtin.append_ #[30, 30] 30 #[(sv p q r), (sv j k l)]) R fun di aS => ∃ (aT : OA) (aU aV : Nat), di = .slice aT aU aV ∧ qab b a aS ∧ Run Tryz.prog (Instr.buildSlice 24 0 #[]) aS fun dj aW => ∃ (aX : OA) (aY aZ : Nat), dj = .slice aX aY aZ ∧ qab b a aW ∧ Run Tryz.prog (Builtin.append_ #[24, 24] 24 #[(sv aX aY aZ), (sv e f g)]) aW fun dk b0 => ∃ (b1 : OA) (b2 b3 : Nat), dk = .slice b1 b2 b3 ∧ qab b a b0 ∧ qa5 (bx F) [(sv aT aU aV), (sv none 0 0), (sv b1 b2 b3), (iv h), (iv i)] 0 b0 fun dl => d ((bx F), ()) dl) ∧ (Run Tryz.prog (Instr.buildSlice 24 0 #[]) R fun dm b4 => ∃ (b5 : OA) (b6 b7 : Nat), dm = .slice b5 b6 b7 ∧ qab b a b4 ∧ Run Tryz.prog (Builtin.append_ #[30, 30] 30 #[(sv p q r), (sv j k l)]) b4 fun dn b8 => ∃ (b9 : OA) (ba bb : Nat), dn = .slice b9 ba bb ∧ qab b a b8 ∧ Run Tryz.prog (Builtin.append_ #[24, 24] 24 #[(sv b5 b6 b7), (sv e f g)]) b8 fun dp bc => ∃ (bd : OA) (be bf : Nat), dp = .slice bd be bf ∧ qab b a bc ∧ qa5 (bx F) [(sv b9 ba bb), (sv none 0 0), (sv bd be bf), (iv h), (iv i)] 0 bc fun dq => d ((bx F), ()) dq) ∧ True)) ∧ True)) ∧ (Run Tryz.prog (Instr.buildSlice 24 0 #[]) a.drew fun dr S => ∃ (u : OA) (v x : Nat), dr = .slice u v x ∧ qab b a S ∧ ((Run Tryz.prog (Instr.buildSlice 30 0 #[]) S fun ds T => ∃ (U : OA) (V W : Nat), ds = .slice U V W ∧ qab b a T ∧ ((Run Tryz.prog (Builtin.append_ #[30, 30] 30 #[(sv U V W), (sv j k l)]) T fun dt X => ∃ (Y : OA) (Z a0 : Nat), dt = .slice Y Z a0 ∧ qab b a X ∧ ((Run Tryz.prog (Builtin.append_ #[24, 24] 24 #[(sv u v x), (sv e f g)]) X fun du bg => ∃ (bh : OA) (bi bj : Nat), du = .slice bh bi bj ∧ qab b a bg ∧ newK bg (.cells zC 33) fun bk bl => qab b a bl ∧ qa5 (bx bk) [(sv Y Z a0), (sv none 0 0), (sv bh bi bj), (iv h), (iv i)] 0 bl fun dv => d ((bx bk), ()) dv) ∧ (newK X (.cells zC 33) fun bm bn => qab b a bn ∧ Run Tryz.prog (Builtin.append_ #[24, 24] 24 #[(sv u v x), (sv e f g)]) bn fun dw bo => ∃ (bp : OA) (bq br : Nat), dw = .slice bp bq br ∧ qab b a bo ∧ qa5 (bx bm) [(sv Y Z a0), (sv none 0 0), (sv bp bq br), (iv h), (iv i)] 0 bo fun dx => d ((bx bm), ()) dx) ∧ True)) ∧ (newK T (.cells zC 33) fun bs bt => qab b a bt ∧ Run Tryz.prog (Builtin.append_ #[30, 30] 30 #[(sv U V W), (sv j k l)]) bt fun dy bu => ∃ (bv : OA) (bw bz : Nat), dy = .slice bv bw bz ∧ qab b a bu ∧ Run Tryz.prog (Builtin.append_ #[24, 24] 24 #[(sv u v x), (sv e f g)]) bu fun dz bA => ∃ (bB : OA) (bC bD : Nat), dz = .slice bB bC bD ∧ qab b a bA ∧ qa5 (bx bs) [(sv bv bw bz), (sv none 0 0), (sv bB bC bD), (iv h), (iv i)] 0 bA fun dA => d ((bx bs), ()) dA) ∧ True)) ∧ (newK S (.cells zC 33) fun bE bF => qab b a bF ∧ Run Tryz.prog (Instr.buildSlice 30 0 #[]) bF fun dB bG => ∃ (bH : OA) (bI bJ : Nat), dB = .slice bH bI bJ ∧ qab b a bG ∧ Run Tryz.prog (Builtin.append_ #[30, 30] 30 #[(sv bH bI bJ), (sv j k l)]) bG fun dC bK => ∃ (bL : OA) (bM bN : Nat), dC = .slice bL bM bN ∧ qab b a bK ∧ Run Tryz.prog (Builtin.append_ #[24, 24] 24 #[(sv u v x), (sv e f g)]) bK fun dD bO => ∃ (bP : OA) (bQ bR : Nat), dD = .slice bP bQ bR ∧ qab b a bO ∧ qa5 (bx bE) [(sv bL bM bN), (sv none 0 0), (sv bP bQ bR), (iv h), (iv i)] 0 bO fun dE => d ((bx bE), ()) dE) ∧ True)) ∧ (newK a.drew (.cells zC 33) fun s a1 => qab b a a1 ∧ ((Run Tryz.prog (Instr.buildSlice 30 0 #[]) a1 fun dF a2 => ∃ (a3 : OA) (a4 a5 : Nat), dF = .slice a3 a4 a5 ∧ qab b a a2 ∧ ((Run Tryz.prog (Builtin.append_ #[30, 30] 30 #[(sv a3 a4 a5), (sv j k l)]) a2 fun dG bS => ∃ (bT : OA) (bU bV : Nat), dG = .slice bT bU bV ∧ qab b a bS ∧ Run Tryz.prog (Instr.buildSlice 24 0 #[]) bS fun dH bW => ∃ (bX : OA) (bY bZ : Nat), dH = .slice bX bY bZ ∧ qab b a bW ∧ Run Tryz.prog (Builtin.append_ #[24, 24] 24 #[(sv bX bY bZ), (sv e f g)]) bW fun dI c0 => ∃ (c1 : OA) (c2 c3 : Nat), dI = .slice c1 c2 c3 ∧ qab b a c0 ∧ qa5 (bx s) [(sv bT bU bV), (sv none 0 0), (sv c1 c2 c3), (iv h), (iv i)] 0 c0 fun dJ => d ((bx s), ()) dJ) ∧ (Run Tryz.prog (Instr.buildSlice 24 0 #[]) a2 fun dK c4 => ∃ (c5 : OA) (c6 c7 : Nat), dK = .slice c5 c6 c7 ∧ qab b a c4 ∧ Run Tryz.prog (Builtin.append_ #[30, 30] 30 #[(sv a3 a4 a5), (sv j k l)]) c4 fun dL c8 => ∃ (c9 : OA) (ca cb : Nat), dL = .slice c9 ca cb ∧ qab b a c8 ∧ Run Tryz.prog (Builtin.append_ #[24, 24] 24 #[(sv c5 c6 c7), (sv e f g)]) c8 fun dM cc => ∃ (cd : OA) (ce cf : Nat), dM = .slice cd ce cf ∧ qab b a cc ∧ qa5 (bx s) [(sv c9 ca cb), (sv none 0 0), (sv cd ce cf), (iv h), (iv i)] 0 cc fun dN => d ((bx s), ()) dN) ∧ True)) ∧ (Run Tryz.prog (Instr.buildSlice 24 0 #[]) a1 fun dO cg => ∃ (ch : OA) (ci cj : Nat), dO = .slice ch ci cj ∧ qab b a cg ∧ Run Tryz.prog (Instr.buildSlice 30 0 #[]) cg fun dP ck => ∃ (cl : OA) (cm cn : Nat), dP = .slice cl cm cn ∧ qab b a ck ∧ Run Tryz.prog (Builtin.append_ #[30, 30] 30 #[(sv cl cm cn), (sv j k l)]) ck fun dQ co => ∃ (cp : OA) (cq cr : Nat), dQ = .slice cp cq cr ∧ qab b a co ∧ Run Tryz.prog (Builtin.append_ #[24, 24] 24 #[(sv ch ci cj), (sv e f g)]) co fun dR cs => ∃ (ct : OA) (cu cv : Nat), dR = .slice ct cu cv ∧ qab b a cs ∧ qa5 (bx s) [(sv cp cq cr), (sv none 0 0), (sv ct cu cv), (iv h), (iv i)] 0 cs fun dS => d ((bx s), ()) dS) ∧ True)) ∧ True))) fun n dT => qdh (σ := Int × Unit) (fun t c dU => ldS c (((bx o).add 1).add 0) fun ez dV eA => qa1 (decide (t.1 < ((dV : Nat) : Int))) ((∃ m : Nat → Prop, ldSM m c (n.1.add 1) 0 fun dW dX dY => ldSM m c ((bx o).add 1) 0 fun dZ e0 eB => (idx t.1 e0 dZ fun a6 => ldIM m c (a6.add ((t.1.toNat) * 3)) 0 fun e1 => ldSM m c (a6.add ((t.1.toNat) * 3)) 1 fun e2 e3 e4 => ldSM m c (a6.add ((t.1.toNat) * 3)) 2 fun e5 e6 e7 => Cl 221 #[(.agg #[(iv e1), (sv e2 e3 e4), (sv e5 e6 e7)])] c.drew fun e8 cw => (∃ (cx : Int), True ∧ ∃ (cy : OA) (cz cA : Nat), True ∧ ∃ (cB : OA) (cC cD : Nat), True ∧ e8 = (.agg #[(iv cx), (sv cy cz cA), (sv cB cC cD)]) ∧ qab m c cw ∧ Run Tryz.prog (Instr.buildSlice 31 1 #[(0, (.agg #[(iv cx), (sv cy cz cA), (sv cB cC cD)]))]) cw fun e9 cE => ∃ (cF : OA) (cG cH : Nat), e9 = .slice cF cG cH ∧ qab m c cE ∧ Run Tryz.prog (Builtin.append_ #[31, 31] 31 #[(sv dW dX dY), (sv cF cG cH)]) cE fun ea cI => ∃ (cJ : OA) (cK cL : Nat), ea = .slice cJ cK cL ∧ qab m c cI ∧ qa5 (n.1.add 1) [(sv cJ cK cL)] 0 cI fun eb => dU ((wrap .i64 (t.1 + 1)), ()) eb)))) (ldS c (n.1.add 0) fun ec ed ee => ldS c (n.1.add 1) fun ef eg eh => ldS c (n.1.add 2) fun ei ej ek => ldI c (n.1.add 3) fun el => ldI c (n.1.add 4) fun em => qa5 (bx a7) [(sv ec ed ee), (sv ef eg eh), (sv ei ej ek), (iv el), (iv em)] 0 c fun cM => ldB cM (bx a7) fun en eo ep er es et eu ev ew ex ey => K (.agg (vB en eo ep er es et eu ev ew ex ey)) cM)) (0, ()) dT

def qdq.ann : Ann := (.seq .l (.cut [(3, .ptr)] .l (.seq (.seq .l (.one (.loop [(4, .int .i64)] (.seq (.seq .l (.two .l .l)) (.seq (.one .l) .l))))) (.seq .l .l))))

theorem qdq.con {l r : D.Block} {V W X : OA} {Y Z a0 : Nat} {w : World} (hp : M.qgm l) (hr : r = M.qdq l) (aE : Row el84 w V l.Code) (bo : l.Code.length ≤ Y) (a8 : RowW 52 el91 el3 w W l.Warps) (bp : l.Warps.length ≤ Z) (aF : Row el3 w X l.Memory) (bq : l.Memory.length ≤ a0) :
    Cl 199 #[(.agg (bC V Y W Z X a0 l))] w (fun v_ m => ∃ (ap : OA) (aq : Nat) (ai : OA) (ar : Nat) (au : Nat → Prop) (aj : OA) (av : Nat), v_ = (.agg (bC ap aq ai ar aj av r)) ∧ Own el84 m w.heap.size ap aq r.Code ∧ OwnW 52 el91 el3 m w.heap.size au ai ar r.Warps ∧ Own el3 m w.heap.size aj av r.Memory ∧ Dis (InW ai au) (InB aj) ∧ Ext w m) := by
 have H := wp.qdq.math l hp
 refine begK mixed Tryz.f199 ann (vc V l.Code.length Y W l.Warps.length Z X l.Memory.length a0 l.Waiting l.Phase) ?_
 unfold vc
 unfold wp.qdq at H
 refine qaL (fun ak br L4 d aG => ?_)
 have b := qa6 (Ext.refl w) aG
 refine qaL (fun al aH L5 P5 aw => ?_)
 have d := d.ext aw
 have c := P5
 have L5 := Nat.le_trans b.size L5
 have b := qa6 b aw
 obtain ⟨aI, aJ, H⟩ := qd9 H
 refine ⟨fun z_ m => ∃ (B : List D.Ins) (a1 : List D.Warp) (C : List Int) (a9 aa : Int) (K : Nat) (E : OA) (F : Nat) (a2 : OA) (ab : Nat) (ac : Nat → Prop) (u : OA) (G : Nat), z_ = ((bx K), ()) ∧ aI (B, a1, C, a9, aa, ()) ∧ Ext w m ∧ Blk m K 33 #[(sv E B.length F), (sv a2 a1.length ab), (sv u C.length G), (iv a9), (iv aa)] ∧ w.heap.size ≤ K ∧ Own el84 m w.heap.size E F B ∧ OwnW 52 el91 el3 m w.heap.size ac a2 ab a1 ∧ Own el3 m w.heap.size u G C ∧ Blk m ak 33 (bC V Y W Z X a0 l) ∧ Blk m al 33 zC ∧ ak ≠ K ∧ al ≠ K ∧ Dis (InW a2 ac) (InB u), ?_, ?_⟩
 ·refine ⟨(fun _ => False), _, _, _, noM (d.a 0), _, _, _, noM (d.a 2), _, noM (d.a 3), _, noM (d.a 4), ?_⟩
  have hS := (Chg.refl (fun _ => False) aH).then (Ext.drew _)
  have d := d.ext (Ext.drew _)
  have c := c.ext (Ext.drew _)
  have b := qa6 b (Ext.drew _)
  repeat' first
  |with_reducible exact trivial
  |(with_reducible show qab _ _ _ ∧ _; refine ⟨qaw hS, ?_⟩)
  |(with_reducible show _ ∧ _; refine And.imp ?_ ?_ H <;> intro H)
  |(with_reducible show Run _ (Instr.buildSlice 30 _ _) _ _
    refine qaz el84 ([] : List D.Ins) (fun _ => by kernel_rfl) rfl (fun A1 w1 P1 e => ?_)
    have B1 := (P1.mono hS.size).low
    have n := P1.mono b.size
    have d := d.ext e
    have c := c.ext e
    try have q := q.ext e
    try have s := s.ext e
    have hS := hS.then e
    have b := qa6 b e)
  |(with_reducible show Run _ (Instr.buildSlice 24 _ _) _ _
    refine qaz el3 ([] : List Int) (fun _ => by kernel_rfl) rfl (fun A2 w1 P2 e => ?_)
    have B2 := (P2.mono hS.size).low
    have q := P2.mono b.size
    have d := d.ext e
    have c := c.ext e
    try have n := n.ext e
    try have s := s.ext e
    have hS := hS.then e
    have b := qa6 b e)
  |(with_reducible show newK _ _ _
    refine qaL (fun g3 w1 N P3 e => ?_)
    have N4 := d.ne N
    have N5 := c.ne N
    have N := Nat.le_trans b.size N
    have s := P3
    have d := d.ext e
    have c := c.ext e
    try have n := n.ext e
    try have q := q.ext e
    have hS := hS.then e
    have b := qa6 b e)
  |(with_reducible show Run _ (Builtin.append_ _ 30 _) _ _
    obtain ⟨hl, H⟩ := H
    refine appO qgL n (aE.ext b) b.size hl (fun A1 c1 w1 P1 e => ?_)
    have d := d.app e (n.qa3 d (by decide))
    have c := c.app e (n.qa3 c (by decide))
    try have q := q.app e (Own.qai q n (by decide))
    try have s := s.app e (n.qa3 s (by decide))
    have hS := hS.app e (fun g h => .inl (B1 g h))
    have b := eapp b e n
    have n := P1)
  |(with_reducible show Run _ (Builtin.append_ _ 24 _) _ _
    obtain ⟨hl, H⟩ := H
    refine appO qgO q (aF.ext b) b.size hl (fun A2 c2 w1 P2 e => ?_)
    have d := d.app e (q.qa3 d (by decide))
    have c := c.app e (q.qa3 c (by decide))
    try have n := n.app e (Own.qai n q (by decide))
    try have s := s.app e (q.qa3 s (by decide))
    have hS := hS.app e (fun g h => .inl (B2 g h))
    have b := eapp b e q
    have q := P2)
  |(with_reducible show qa5 _ _ _ _ _
    have ax := s
    refine qda s (o := 0) (cs' := #[(sv A1 (([] : List D.Ins) ++ l.Code).length c1), (sv none 0 0), (sv A2 (([] : List Int) ++ l.Memory).length c2), (iv l.Waiting), (iv l.Phase)]) rfl rfl (Nat.le_of_ble_eq_true rfl) rfl (fun w1 s e => ?_)
    have d := d.chg e N4
    have c := c.chg e N5
    have n := n.chg e (n.qa3 ax (by decide))
    exact ⟨_, [], _, _, _, g3, A1, c1, none, 0, (fun _ => False), A2, c2, rfl, H, echg b e N, s, N, n, OwnW.nil, q.chg e (q.qa3 ax (by decide)), d, c, N4, N5, qiv⟩)
 rintro _ bs ⟨B, a1, C, a9, aa, K, E, F, a2, ab, ac, u, G, rfl, H, b, j, aK, p, aL, k, d, c, aM, aO, aP⟩
 have H := aJ _ H
 try dsimp only at H ⊢
 obtain ⟨aQ, ⟨aR, aS⟩, ay⟩ := H
 refine ⟨fun m_ z_ m => ∃ (am : Int) (O : List D.Warp) (P Q : Int) (x : OA) (a3 : Nat) (R : Nat → Prop), z_ = (am, ()) ∧ aQ m_ (am, O, P, Q, ()) ∧ Ext w m ∧ Blk m K 33 #[(sv E B.length F), (sv x O.length a3), (sv u C.length G), (iv P), (iv Q)] ∧ OwnW 52 el91 el3 m w.heap.size R x a3 O ∧ Blk m ak 33 (bC V Y W Z X a0 l) ∧ Blk m al 33 zC ∧ Own el84 m w.heap.size E F B ∧ Own el3 m w.heap.size u G C ∧ Dis (InW x R) (InB u), ⟨aR, 0, a1, a9, aa, a2, ab, ac, rfl, aS, b, j, aL, d, c, p, k, aP⟩, ?_⟩
 rintro aT _ aU ⟨am, O, P, Q, x, a3, R, rfl, az, b, j, i, d, c, p, k, a4⟩
 have H := ay aT _ az
 clear ay az
 try dsimp only at H ⊢
 refine ⟨_, _, _, (d.a 1), ?_⟩
 apply brc H<;>intro h H
 ·refine ⟨(InB x), _, _, _, ⟨(qfb (fun f => (i.qd0 j (by decide) (by decide) (by decide)) (Or.inl f)) (by first | rfl | (simp only [qcT]))), (j.a 1)⟩, _, _, _, ⟨(qfb (fun f => (i.qd0 d (by decide) (by decide) (by decide)) (Or.inl f)) (by first | rfl | (simp only [qcT]))), (d.a 1)⟩, ?_⟩
  obtain ⟨⟨a5, a6⟩, H⟩ := H
  obtain ⟨aV, ad, bt, bu, bv, bw, aW, aX, aY, aZ, b0, b1, b2⟩ := RowW.at a8 a5 a6
  refine ⟨a5, a6, aV, ad, _, ⟨(qfb (fun f => absurd (a8.old (qlo a5 a6) _ ⟨_, ad, rfl⟩) (Nat.not_lt.2 (i.lowW _ (Or.inl f)))) (by first | rfl | (simp only [qcT]))), (Ext.cell b aW)⟩, _, _, _, ⟨(qfb (fun f => absurd (a8.old (qlo a5 a6) _ ⟨_, ad, rfl⟩) (Nat.not_lt.2 (i.lowW _ (Or.inl f)))) (by first | rfl | (simp only [qcT]))), (Ext.cell b aX)⟩, _, _, _, ⟨(qfb (fun f => absurd (a8.old (qlo a5 a6) _ ⟨_, ad, rfl⟩) (Nat.not_lt.2 (i.lowW _ (Or.inl f)))) (by first | rfl | (simp only [qcT]))), (Ext.cell b aY)⟩, ?_⟩
  have d := d.ext (Ext.drew _)
  have c := c.ext (Ext.drew _)
  have j := j.ext (Ext.drew _)
  have p := p.ext (Ext.drew _)
  have k := k.ext (Ext.drew _)
  have i := i.ext (Ext.drew _)
  have b := qa6 b (Ext.drew _)
  have t := (Chg.refl (InB x) aU).then (Ext.drew _)
  obtain ⟨b3, H⟩ := H
  obtain ⟨a7, b4, H⟩ := qaa H
  refine (cllA (qcd.con b3 b4 (aZ.ext b) b0 (b1.ext b) b2)).mono ?_
  rintro _ bz ⟨S, aA, T, aB, rfl, ae, af, I⟩
  have b5 := aN k ae
  have b6 := i.qf8 ae (Nat.le_refl _)
  have b7 := aN k af
  have b8 := i.qf8 af (Nat.le_refl _)
  have k := k.ext I
  have i := i.ext I
  have b9 := (ae.mono t.size).low
  have ba := (af.mono t.size).low
  have bb := ae.mono b.size
  have bc := af.mono b.size
  have b := qa6 b I
  have t := t.then I
  refine ⟨a7.Number, trivial, S, a7.Frames.length, aA, trivial, T, a7.Regs.length, aB, trivial, rfl, qaw t, ?_⟩
  refine qaz (elH 52) ([⟨a7, S, aA, T, aB⟩] : List HW) (fun _ => by kernel_rfl) rfl (fun an bA ag v => ?_)
  have bd : OwnW 52 el91 el3 _ _ _ _ _ _ := OwnW.one (ag.mono b.size) (bb.ext v) (bc.ext v)
  have be : Dis (InW an (fun g => InB S g ∨ InB T g)) (InB u) := fun g f L => f.elim (fun f => (Own.qev k ag (Nat.le_refl _)).inb g L f) (fun f => f.elim (fun f => ((b5).symm).inb g f L) (fun f => ((b7).symm).inb g f L))
  have bf : Dis (InW an (fun g => InB S g ∨ InB T g)) (InW x R) := fun g f L => f.elim (fun f => i.qf8 ag (Nat.le_refl _) g L f) (fun f => f.elim (fun f => b6 g L f) (fun f => b8 g L f))
  have d := (d.ext I).ext v
  have c := (c.ext I).ext v
  have j := (j.ext I).ext v
  have p := (p.ext I).ext v
  have k := k.ext v
  have i := i.ext v
  have bB : ∀ g, InW an (fun g => InB S g ∨ InB T g) g → _ := fun g f => f.elim ((ag.mono t.size).low g) (fun f => f.elim (fun f => b9 g f) (fun f => ba g f))
  have bg := bd
  have b := qa6 b v
  have t := t.then v
  refine ⟨qaw t, ?_⟩
  obtain ⟨bh, H⟩ := H
  refine qm1 qnx qnx.under i bg (bf).symm (by decide) (by decide) b.size rfl (by first | rfl | omega | (simp; done) | (simp; omega)) bh (fun aC aD bD bi J => ?_)
  have d := d.app J (fun y z A => (i.qd0 d (by decide) (by decide) (by decide)) (Or.inl ⟨y, z, A⟩))
  have c := c.app J (fun y z A => (i.qd0 c (by decide) (by decide) (by decide)) (Or.inl ⟨y, z, A⟩))
  have j := j.app J (fun y z A => (i.qd0 j (by decide) (by decide) (by decide)) (Or.inl ⟨y, z, A⟩))
  have p := p.app J (fun y b_ z A ao => (i.qfe p (by decide) (by decide) (by decide)) _ (Or.inl ⟨b_, A, rfl⟩) ⟨y, z, ao⟩)
  have bj := qmr a4 be J k
  have k := k.app J (fun y b_ z A ao => a4 _ (Or.inl ⟨b_, A, rfl⟩) ⟨y, z, ao⟩)
  have a4 := bj
  have t := t.app J (fun g f => (Or.inr f))
  have b := qph b J i
  have i := bi
  refine ⟨qaw t, ?_⟩
  refine stB j 1 #[(sv E B.length F), (sv aC (((O ++ ([a7] : List D.Warp))).length) aD), (sv u C.length G), (iv P), (iv Q)] (fun bE bk U => ?_)
  have d := d.chg U aM
  have c := c.chg U aO
  have p := p.chg U (p.qa3 j (by decide))
  have k := k.chg U (k.qa3 j (by decide))
  have i := i.chg U (i.qd0 j (by decide) (by decide) (by decide))
  have b := echg b U aK
  have j := bk
  obtain ⟨bl, bm, bn⟩ := H
  exact ⟨bl, bm, _, _, P, Q, aC, aD, (fun g => R g ∨ (fun g => InB S g ∨ InB T g) g), rfl, bn, b, j, i, d, c, p, k, a4⟩
 refine ⟨_, _, _, (j.a 0), _, _, _, (j.a 1), _, _, _, (j.a 2), _, (j.a 3), _, (j.a 4), ?_⟩
 refine stB c 0 #[(sv E B.length F), (sv x O.length a3), (sv u C.length G), (iv P), (iv Q)] (fun bF P5 ah => ?_)
 have p := p.chg ah (p.qa3 c (by decide))
 have k := k.chg ah (k.qa3 c (by decide))
 have i := i.chg ah (i.qd0 c (by decide) (by decide) (by decide))
 have b := echg b ah L5
 have c := P5
 refine ⟨_, _, _, (c.a 0), _, _, _, (c.a 1), _, _, _, (c.a 2), _, (c.a 3), _, (c.a 4), ?_⟩
 cases hr.trans H.symm
 exact ⟨E, F, x, a3, R, u, G, rfl, p, i, k, a4, b⟩
def qaf.vc (a : OA) (h i : Nat) (w : World) (K : VK) : Prop :=
  qa1 (Option.isNone a) (K (sv none 0 0) w) (Run Tryz.prog (Instr.buildSlice 50 0 #[]) w fun j k => ∃ (b : OA) (c d : Nat), j = .slice b c d ∧ Run Tryz.prog (Builtin.append_ #[50, 50] 50 #[(sv b c d), (sv a h i)]) k fun l m => ∃ (e : OA) (f g : Nat), l = .slice e f g ∧ K (sv e f g) m)

def qaf.ann : Ann := (.seq .l (.seq (.seq .l (.two (.seq .l .l) .l)) (.seq .l .l)))

theorem qaf.con {b r : List D.Frame} {c : OA} {e : Nat} {w : World} (n : M.qba b) (g : r = M.qaf b) (i : Row el91 w c b) (z : b.length ≤ e) :
    Cl 170 #[(sv c b.length e)] w (fun o j => ∃ (k : OA) (l : Nat), o = (sv k r.length l) ∧ Own el91 j w.heap.size k l r ∧ Ext w j) := by
 have H := wp.qaf.math b n
 have a := Ext.refl w
 refine begK mixed Tryz.f170 ann (vc c b.length e) ?_
 unfold vc
 unfold wp.qaf at H
 obtain ⟨p, m⟩ : ∃ q, q = Option.isNone c := ⟨_, rfl⟩
 have H := H p (fun s => Row.isNone (i.ext a) (m.symm.trans s))
 rw [← m]
 apply brc H<;>intro h H
 ·cases g.trans H.symm
  exact ⟨none, 0, rfl, Own.nil, a⟩
 refine qaz el91 ([] : List D.Frame) (fun _ => by kernel_rfl) rfl (fun A B f t => ?_)
 have d := f.mono a.size
 have a := qa6 a t
 obtain ⟨u, H⟩ := H
 refine appO qla d (i.ext a) a.size u (fun v x C f y => ?_)
 have a := eapp a y d
 have d := f
 cases g.trans H.symm
 exact ⟨v, x, rfl, d, a⟩
def qcO.vc (Q : Int) (R : OA) (S T : Nat) (U : OA) (V W : Nat) (w : World) (K : VK) : Prop :=
  newK w (.cells #[(iv Q), (sv R S T), (sv U V W)] 52) fun a X => newK X (.cells #[(iv 0), (sv none 0 0), (sv none 0 0)] 52) fun b c => ((∃ (j : OA) (k l : Nat), c.drew.cell? (((bx a).add 1).add 0) = some (sv j k l) ∧ ((Cl 170 #[(sv j k l)] c.drew fun Y m => (∃ (n : OA) (o p : Nat), Y = (sv n o p) ∧ ((ldS m (((bx a).add 2).add 0) fun Z a0 a1 => ((Cl 128 #[(sv Z a0 a1)] m fun a2 a3 => (∃ (q : OA) (r s : Nat), a2 = (sv q r s) ∧ ((qa5 ((bx a).add 1) [(sv n o p)] 0 a3 fun a4 => ((qa5 ((bx a).add 2) [(sv q r s)] 0 a4 fun d => ldI d ((bx a).add 0) fun a5 => ldS d ((bx a).add 1) fun a6 a7 a8 => ldS d ((bx a).add 2) fun a9 aa ab => qa5 (bx b) [(iv a5), (sv a6 a7 a8), (sv a9 aa ab)] 0 d fun e => ldI e ((bx b).add 0) fun ac => ldS e ((bx b).add 1) fun ad ae af => ldS e ((bx b).add 2) fun ag ah ai => K (.agg #[(iv ac), (sv ad ae af), (sv ag ah ai)]) e) ∧ True)) ∧ True))) ∧ True)) ∧ True))) ∧ (∃ (t : OA) (u v : Nat), c.drew.cell? (((bx a).add 2).add 0) = some (sv t u v) ∧ ((Cl 170 #[(sv j k l)] c.drew fun aj ak => (∃ (x : OA) (y z : Nat), aj = (sv x y z) ∧ ((Cl 128 #[(sv t u v)] ak fun al am => (∃ (A : OA) (B C : Nat), al = (sv A B C) ∧ ((qa5 ((bx a).add 1) [(sv x y z)] 0 am fun an => ((qa5 ((bx a).add 2) [(sv A B C)] 0 an fun f => ldI f ((bx a).add 0) fun ao => ldS f ((bx a).add 1) fun ap aq ar => ldS f ((bx a).add 2) fun au av aw => qa5 (bx b) [(iv ao), (sv ap aq ar), (sv au av aw)] 0 f fun g => ldI g ((bx b).add 0) fun ax => ldS g ((bx b).add 1) fun ay az aA => ldS g ((bx b).add 2) fun aB aC aD => K (.agg #[(iv ax), (sv ay az aA), (sv aB aC aD)]) g) ∧ True)) ∧ True))) ∧ True))) ∧ True)) ∧ True)) ∧ (∃ (D : OA) (E F : Nat), c.drew.cell? (((bx a).add 2).add 0) = some (sv D E F) ∧ ((∃ (G : OA) (H I : Nat), c.drew.cell? (((bx a).add 1).add 0) = some (sv G H I) ∧ ((Cl 170 #[(sv G H I)] c.drew fun aE aF => (∃ (J : OA) (L M : Nat), aE = (sv J L M) ∧ ((Cl 128 #[(sv D E F)] aF fun aG aH => (∃ (N : OA) (O P : Nat), aG = (sv N O P) ∧ ((qa5 ((bx a).add 1) [(sv J L M)] 0 aH fun aI => ((qa5 ((bx a).add 2) [(sv N O P)] 0 aI fun h => ldI h ((bx a).add 0) fun aJ => ldS h ((bx a).add 1) fun aK aL aM => ldS h ((bx a).add 2) fun aN aO aP => qa5 (bx b) [(iv aJ), (sv aK aL aM), (sv aN aO aP)] 0 h fun i => ldI i ((bx b).add 0) fun aQ => ldS i ((bx b).add 1) fun aR aS aT => ldS i ((bx b).add 2) fun aU aV aW => K (.agg #[(iv aQ), (sv aR aS aT), (sv aU aV aW)]) i) ∧ True)) ∧ True))) ∧ True))) ∧ True)) ∧ True)) ∧ True)

def qcO.ann : Ann := (.seq .l (.seq .each (.seq .l .l)))

theorem qcO.con {e r : D.Warp} {W k : OA} {X l : Nat} {w : World} (hp : M.qfX e) (Y : r = M.qcO e) (Z : Row el91 w W e.Frames) (a0 : e.Frames.length ≤ X) (a1 : Row el3 w k e.Regs) (a2 : e.Regs.length ≤ l) :
    Cl 129 #[(.agg (wC W X k l e))] w (fun v_ w_ => ∃ (aj : OA) (ak : Nat) (al : OA) (am : Nat), v_ = (.agg (wC aj ak al am r)) ∧ Own el91 w_ w.heap.size aj ak r.Frames ∧ Own el3 w_ w.heap.size al am r.Regs ∧ Ext w w_) := by
 have H := wp.qcO.math e hp
 have b := Ext.refl w
 refine begK mixed Tryz.f129 ann (vc e.Number W e.Frames.length X k e.Regs.length l) ?_
 unfold vc
 unfold wp.qcO at H
 refine qaL (fun aP aQ f g aw => ?_)
 have c := g
 have f := Nat.le_trans b.size f
 have b := qa6 b aw
 refine qaL (fun aR aS m P4 an => ?_)
 have n := c.ne m
 have m := Nat.le_trans b.size m
 have c := (c.ext an).ext (Ext.drew _)
 have d := P4.ext (Ext.drew _)
 have b := qa6 (qa6 b an) (Ext.drew _)
 refine And.intro ?_ ?_
 ·have H := H.1
  refine ⟨_, _, _, (c.a 1), ?_⟩
  refine And.intro ?_ ?_
  ·have H := H.1
   obtain ⟨ax, H⟩ := H
   obtain ⟨B, ay, H⟩ := qaa H
   refine (qaf.con ax ay (Z.ext b) a0).mono ?_
   rintro _ aT ⟨p, q, rfl, P5, a3⟩
   have ao := P5.qap c.lt
   have az := P5.qap d.lt
   have c := c.ext a3
   have d := d.ext a3
   have h := P5.mono b.size
   have b := qa6 b a3
   refine ⟨p, B.length, q, rfl, ?_⟩
   refine qcn ?_
   refine ⟨_, _, _, (c.a 2), ?_⟩
   refine qcn ?_
   obtain ⟨aA, H⟩ := H
   obtain ⟨a4, aB, H⟩ := qaa H
   refine (qaq.con aA aB (a1.ext b) a2).mono ?_
   rintro _ aU ⟨C, E, rfl, P6, F⟩
   have ap := P6.qap c.lt
   have aC := P6.qap d.lt
   have c := c.ext F
   have d := d.ext F
   have h := h.ext F
   have s := P6.mono b.size
   have b := qa6 b F
   refine ⟨C, a4.length, E, rfl, ?_⟩
   refine qcn ?_
   refine stB c 1 #[(iv e.Number), (sv p B.length q), (sv k e.Regs.length l)] (fun aV g G => ?_)
   have t := d.chg G (n).symm
   have a5 := h.chg G ao
   have a6 := s.chg G ap
   have h := a5
   have s := a6
   have b := echg b G f
   have c := g
   refine qcn ?_
   refine qda c (o := 2) (cs' := #[(iv e.Number), (sv p B.length q), (sv C a4.length E)]) rfl rfl (Nat.le_of_ble_eq_true rfl) rfl (fun aW c I => ?_)
   have d := t.chg I (n).symm
   have a5 := h.chg I ao
   have a6 := s.chg I ap
   have b := echg b I f
   refine ⟨_, (c.a 0), _, _, _, (c.a 1), _, _, _, (c.a 2), ?_⟩
   refine qda d (o := 0) (cs' := #[(iv e.Number), (sv p B.length q), (sv C a4.length E)]) rfl rfl (Nat.le_of_ble_eq_true rfl) rfl (fun aX d a7 => ?_)
   have h := a5.chg a7 az
   have s := a6.chg a7 aC
   have b := echg b a7 m
   refine ⟨_, (d.a 0), _, _, _, (d.a 1), _, _, _, (d.a 2), ?_⟩
   cases Y.trans H.symm
   exact ⟨p, q, C, E, rfl, h, s, b⟩
  refine And.intro ?_ ?_
  ·have H := H.2.1
   refine ⟨_, _, _, (c.a 2), ?_⟩
   refine qcn ?_
   obtain ⟨aD, H⟩ := H
   obtain ⟨J, aE, H⟩ := qaa H
   refine (qaf.con aD aE (Z.ext b) a0).mono ?_
   rintro _ aY ⟨u, v, rfl, P7, a8⟩
   have aq := P7.qap c.lt
   have aF := P7.qap d.lt
   have c := c.ext a8
   have d := d.ext a8
   have i := P7.mono b.size
   have b := qa6 b a8
   refine ⟨u, J.length, v, rfl, ?_⟩
   refine qcn ?_
   obtain ⟨aG, H⟩ := H
   obtain ⟨a9, aH, H⟩ := qaa H
   refine (qaq.con aG aH (a1.ext b) a2).mono ?_
   rintro _ aZ ⟨K, L, rfl, P8, N⟩
   have ar := P8.qap c.lt
   have aI := P8.qap d.lt
   have c := c.ext N
   have d := d.ext N
   have i := i.ext N
   have x := P8.mono b.size
   have b := qa6 b N
   refine ⟨K, a9.length, L, rfl, ?_⟩
   refine qcn ?_
   refine stB c 1 #[(iv e.Number), (sv u J.length v), (sv k e.Regs.length l)] (fun b0 g O => ?_)
   have t := d.chg O (n).symm
   have aa := i.chg O aq
   have ab := x.chg O ar
   have i := aa
   have x := ab
   have b := echg b O f
   have c := g
   refine qcn ?_
   refine qda c (o := 2) (cs' := #[(iv e.Number), (sv u J.length v), (sv K a9.length L)]) rfl rfl (Nat.le_of_ble_eq_true rfl) rfl (fun b1 c P => ?_)
   have d := t.chg P (n).symm
   have aa := i.chg P aq
   have ab := x.chg P ar
   have b := echg b P f
   refine ⟨_, (c.a 0), _, _, _, (c.a 1), _, _, _, (c.a 2), ?_⟩
   refine qda d (o := 0) (cs' := #[(iv e.Number), (sv u J.length v), (sv K a9.length L)]) rfl rfl (Nat.le_of_ble_eq_true rfl) rfl (fun b2 d ac => ?_)
   have i := aa.chg ac aF
   have x := ab.chg ac aI
   have b := echg b ac m
   refine ⟨_, (d.a 0), _, _, _, (d.a 1), _, _, _, (d.a 2), ?_⟩
   cases Y.trans H.symm
   exact ⟨u, v, K, L, rfl, i, x, b⟩
  exact trivial
 refine And.intro ?_ ?_
 ·have H := H.2.1
  refine ⟨_, _, _, (c.a 2), ?_⟩
  refine qcn ?_
  refine ⟨_, _, _, (c.a 1), ?_⟩
  refine qcn ?_
  obtain ⟨aJ, H⟩ := H
  obtain ⟨Q, aK, H⟩ := qaa H
  refine (qaf.con aJ aK (Z.ext b) a0).mono ?_
  rintro _ b3 ⟨y, z, rfl, P9, ad⟩
  have au := P9.qap c.lt
  have aL := P9.qap d.lt
  have c := c.ext ad
  have d := d.ext ad
  have j := P9.mono b.size
  have b := qa6 b ad
  refine ⟨y, Q.length, z, rfl, ?_⟩
  refine qcn ?_
  obtain ⟨aM, H⟩ := H
  obtain ⟨ae, aN, H⟩ := qaa H
  refine (qaq.con aM aN (a1.ext b) a2).mono ?_
  rintro _ b4 ⟨R, S, rfl, af, T⟩
  have av := af.qap c.lt
  have aO := af.qap d.lt
  have c := c.ext T
  have d := d.ext T
  have j := j.ext T
  have A := af.mono b.size
  have b := qa6 b T
  refine ⟨R, ae.length, S, rfl, ?_⟩
  refine qcn ?_
  refine stB c 1 #[(iv e.Number), (sv y Q.length z), (sv k e.Regs.length l)] (fun b5 g U => ?_)
  have t := d.chg U (n).symm
  have ag := j.chg U au
  have ah := A.chg U av
  have j := ag
  have A := ah
  have b := echg b U f
  have c := g
  refine qcn ?_
  refine qda c (o := 2) (cs' := #[(iv e.Number), (sv y Q.length z), (sv R ae.length S)]) rfl rfl (Nat.le_of_ble_eq_true rfl) rfl (fun b6 c V => ?_)
  have d := t.chg V (n).symm
  have ag := j.chg V au
  have ah := A.chg V av
  have b := echg b V f
  refine ⟨_, (c.a 0), _, _, _, (c.a 1), _, _, _, (c.a 2), ?_⟩
  refine qda d (o := 0) (cs' := #[(iv e.Number), (sv y Q.length z), (sv R ae.length S)]) rfl rfl (Nat.le_of_ble_eq_true rfl) rfl (fun b7 d ai => ?_)
  have j := ag.chg ai aL
  have A := ah.chg ai aO
  have b := echg b ai m
  refine ⟨_, (d.a 0), _, _, _, (d.a 1), _, _, _, (d.a 2), ?_⟩
  cases Y.trans H.symm
  exact ⟨y, z, R, S, rfl, j, A, b⟩
 exact trivial
def qca.vc (ae : OA) (af ag : Nat) (ah : OA) (ai aj : Nat) (ak : OA) (al am : Nat) (an ao : Int) (w : World) (K : VK) : Prop :=
  newK w (.cells (vB ae af ag ah ai aj ak al am an ao) 33) fun h ap => newK ap (.cells zC 33) fun u a => qfo (σ := Addr × Unit) (fun j => (∃ b : Nat → Prop, ldSM b a ((bx h).add 0) 0 fun v x y => ldSM b a ((bx h).add 2) 0 fun k l m => ldIM b a ((bx h).add 3) 0 fun n => ldIM b a ((bx h).add 4) 0 fun o => ((Cl 127 #[(sv v x y)] a.drew fun aq p => (∃ (q : OA) (r s : Nat), aq = (sv q r s) ∧ qab b a p ∧ ((Cl 128 #[(sv k l m)] p fun ar z => (∃ (A : OA) (B C : Nat), ar = (sv A B C) ∧ qab b a z ∧ newK z (.cells zC 33) fun D E => qab b a E ∧ qa5 (bx D) [(sv q r s), (sv none 0 0), (sv A B C), (iv n), (iv o)] 0 E fun au => j ((bx D), ()) au)) ∧ (newK p (.cells zC 33) fun F G => qab b a G ∧ Cl 128 #[(sv k l m)] G fun av H => (∃ (I : OA) (J L : Nat), av = (sv I J L) ∧ qab b a H ∧ qa5 (bx F) [(sv q r s), (sv none 0 0), (sv I J L), (iv n), (iv o)] 0 H fun aw => j ((bx F), ()) aw)) ∧ True))) ∧ (newK a.drew (.cells zC 33) fun M N => qab b a N ∧ Cl 127 #[(sv v x y)] N fun ax O => (∃ (P : OA) (Q R : Nat), ax = (sv P Q R) ∧ qab b a O ∧ Cl 128 #[(sv k l m)] O fun ay w64 => (∃ (S : OA) (T U : Nat), ay = (sv S T U) ∧ qab b a w64 ∧ qa5 (bx M) [(sv P Q R), (sv none 0 0), (sv S T U), (iv n), (iv o)] 0 w64 fun az => j ((bx M), ()) az))) ∧ True))) fun e V => ldS V (((bx h).add 1).add 0) fun aA W bk => qdh (σ := Int × Unit) (fun g c aB => qa1 (decide (g.1 < ((W : Nat) : Int))) ((idx g.1 W aA fun t => ldI c ((t.add ((g.1.toNat) * 3)).add 0) fun aC => ldS c ((t.add ((g.1.toNat) * 3)).add 1) fun aD aE aF => ldS c ((t.add ((g.1.toNat) * 3)).add 2) fun aG aH aI => newK c (.cells #[(iv 0), (sv none 0 0), (sv none 0 0)] 52) fun i aJ => qa5 (bx i) [(iv aC), (sv aD aE aF), (sv aG aH aI)] 0 aJ fun d => (∃ f : Nat → Prop, ldSM f d (e.1.add 1) 0 fun aK aL aM => ldIM f d (bx i) 0 fun aN => ldSM f d (bx i) 1 fun aO aP aQ => ldSM f d (bx i) 2 fun aR aS aT => Cl 129 #[(.agg #[(iv aN), (sv aO aP aQ), (sv aR aS aT)])] d.drew fun aU X => (∃ (Y : Int), True ∧ ∃ (Z : OA) (a0 a1 : Nat), True ∧ ∃ (a2 : OA) (a3 a4 : Nat), True ∧ aU = (.agg #[(iv Y), (sv Z a0 a1), (sv a2 a3 a4)]) ∧ qab f d X ∧ Run Tryz.prog (Instr.buildSlice 31 1 #[(0, (.agg #[(iv Y), (sv Z a0 a1), (sv a2 a3 a4)]))]) X fun aV a5 => ∃ (a6 : OA) (a7 a8 : Nat), aV = .slice a6 a7 a8 ∧ qab f d a5 ∧ Run Tryz.prog (Builtin.append_ #[31, 31] 31 #[(sv aK aL aM), (sv a6 a7 a8)]) a5 fun aW a9 => ∃ (aa : OA) (ab ac : Nat), aW = .slice aa ab ac ∧ qab f d a9 ∧ qa5 (e.1.add 1) [(sv aa ab ac)] 0 a9 fun aX => aB ((wrap .i64 (g.1 + 1)), ()) aX)))) (ldS c (e.1.add 0) fun aY aZ b0 => ldS c (e.1.add 1) fun b1 b2 b3 => ldS c (e.1.add 2) fun b4 b5 b6 => ldI c (e.1.add 3) fun b7 => ldI c (e.1.add 4) fun b8 => qa5 (bx u) [(sv aY aZ b0), (sv b1 b2 b3), (sv b4 b5 b6), (iv b7), (iv b8)] 0 c fun ad => ldB ad (bx u) fun b9 ba bb bc bd be bf bg bh bi bj => K (.agg (vB b9 ba bb bc bd be bf bg bh bi bj)) ad)) (0, ()) V

def qca.ann : Ann := (.seq .l (.cut [(3, .ptr)] .l (.seq (.seq .l (.one (.loop [(20, .int .i64)] (.seq .l (.seq (.two .l .l) (.seq (.one (.seq .l .l)) .l)))))) (.seq .l .l))))

theorem qca.con {k r : D.Block} {a9 aa ab : OA} {ac ad ae : Nat} {w : World} (Z : M.qeM k) (hr : r = M.qca k) (aI : Row el84 w a9 k.Code) (aJ : k.Code.length ≤ ac) (aK : RowW 52 el91 el3 w aa k.Warps) (bO : k.Warps.length ≤ ad) (aL : Row el3 w ab k.Memory) (aM : k.Memory.length ≤ ae) :
    Cl 69 #[(.agg (bC a9 ac aa ad ab ae k))] w (fun v_ m => ∃ (aq : OA) (ar : Nat) (am : OA) (au : Nat) (av : Nat → Prop) (an : OA) (aw : Nat), v_ = (.agg (bC aq ar am au an aw r)) ∧ Own el84 m w.heap.size aq ar r.Code ∧ OwnW 52 el91 el3 m w.heap.size av am au r.Warps ∧ Own el3 m w.heap.size an aw r.Memory ∧ Dis (InW am av) (InB an) ∧ Ext w m) := by
 have H := wp.qca.math k Z
 refine begK mixed Tryz.f69 ann (vc a9 k.Code.length ac aa k.Warps.length ad ab k.Memory.length ae k.Waiting k.Phase) ?_
 unfold vc
 unfold wp.qca at H
 refine qaL (fun ax bP L4 n aO => ?_)
 have b := qa6 (Ext.refl w) aO
 refine qaL (fun ao aP L5 P5 ay => ?_)
 have n := n.ext ay
 have d := P5
 have L5 := Nat.le_trans b.size L5
 have b := qa6 b ay
 obtain ⟨aQ, aR, H⟩ := qd9 H
 refine ⟨fun z_ m => ∃ (v : List D.Ins) (a0 : List D.Warp) (x : List Int) (af ag : Int) (F : Nat) (y : OA) (z : Nat) (a1 : OA) (ah : Nat) (ai : Nat → Prop) (s : OA) (A : Nat), z_ = ((bx F), ()) ∧ aQ (v, a0, x, af, ag, ()) ∧ Ext w m ∧ Blk m F 33 #[(sv y v.length z), (sv a1 a0.length ah), (sv s x.length A), (iv af), (iv ag)] ∧ w.heap.size ≤ F ∧ Own el84 m w.heap.size y z v ∧ OwnW 52 el91 el3 m w.heap.size ai a1 ah a0 ∧ Own el3 m w.heap.size s A x ∧ Blk m ax 33 (bC a9 ac aa ad ab ae k) ∧ Blk m ao 33 zC ∧ ax ≠ F ∧ ao ≠ F ∧ Dis (InW a1 ai) (InB s), ?_, ?_⟩
 ·refine ⟨(fun _ => False), _, _, _, noM (n.a 0), _, _, _, noM (n.a 2), _, noM (n.a 3), _, noM (n.a 4), ?_⟩
  have hS := (Chg.refl (fun _ => False) aP).then (Ext.drew _)
  have n := n.ext (Ext.drew _)
  have d := d.ext (Ext.drew _)
  have b := qa6 b (Ext.drew _)
  repeat' first
  |with_reducible exact trivial
  |(with_reducible show qab _ _ _ ∧ _; refine ⟨qaw hS, ?_⟩)
  |(with_reducible show _ ∧ _; refine And.imp ?_ ?_ H <;> intro H)
  |(with_reducible show Cl 127 _ _ _
    obtain ⟨Z, H⟩ := H
    obtain ⟨r1, hr, H⟩ := qaa H
    refine (qao.con Z hr (aI.ext b) aJ).mono ?_
    rintro _ w1 ⟨A1, c1, rfl, P1, e⟩
    have P := P1.mono b.size
    have n := n.ext e
    have d := d.ext e
    try have Q := Q.ext e
    try have B := B.ext e
    have hS := hS.then e
    have b := qa6 b e
    refine ⟨A1, _, c1, rfl, ?_⟩)
  |(with_reducible show Cl 128 _ _ _
    obtain ⟨Z, H⟩ := H
    obtain ⟨r2, hr, H⟩ := qaa H
    refine (qaq.con Z hr (aL.ext b) aM).mono ?_
    rintro _ w1 ⟨A2, c2, rfl, P2, e⟩
    have Q := P2.mono b.size
    have n := n.ext e
    have d := d.ext e
    try have P := P.ext e
    try have B := B.ext e
    have hS := hS.then e
    have b := qa6 b e
    refine ⟨A2, _, c2, rfl, ?_⟩)
  |(with_reducible show newK _ _ _
    refine qaL (fun g3 w1 R P3 e => ?_)
    have N4 := n.ne R
    have N5 := d.ne R
    have R := Nat.le_trans b.size R
    have B := P3
    have n := n.ext e
    have d := d.ext e
    try have P := P.ext e
    try have Q := Q.ext e
    have hS := hS.then e
    have b := qa6 b e)
  |(with_reducible show qa5 _ _ _ _ _
    have az := B
    refine qda B (o := 0) (cs' := #[(sv A1 r1.length c1), (sv none 0 0), (sv A2 r2.length c2), (iv k.Waiting), (iv k.Phase)]) rfl rfl (Nat.le_of_ble_eq_true rfl) rfl (fun w1 B e => ?_)
    exact ⟨r1, [], r2, _, _, g3, A1, c1, none, 0, (fun _ => False), A2, c2, rfl, H, echg b e R, B, R, P.chg e (P.qa3 az (by decide)), OwnW.nil, Q.chg e (Q.qa3 az (by decide)), n.chg e N4, d.chg e N5, N4, N5, qiv⟩)
 rintro _ bQ ⟨v, a0, x, af, ag, F, y, z, a1, ah, ai, s, A, rfl, H, b, i, aS, l, aT, j, n, d, bR, aU, aV⟩
 have H := aR _ H
 try dsimp only at H ⊢
 refine ⟨_, _, _, (n.a 1), ?_⟩
 obtain ⟨aW, ⟨aX, aY⟩, aA⟩ := H
 refine ⟨fun m_ z_ m => ∃ (S : Int) (T : List D.Warp) (U V : Int) (t : OA) (a2 : Nat) (W : Nat → Prop), z_ = (S, ()) ∧ aW m_ (S, T, U, V, ()) ∧ Ext w m ∧ Blk m F 33 #[(sv y v.length z), (sv t T.length a2), (sv s x.length A), (iv U), (iv V)] ∧ OwnW 52 el91 el3 m w.heap.size W t a2 T ∧ Blk m ao 33 zC ∧ Own el84 m w.heap.size y z v ∧ Own el3 m w.heap.size s A x ∧ Dis (InW t W) (InB s), ⟨aX, 0, a0, af, ag, a1, ah, ai, rfl, aY, b, i, aT, d, l, j, aV⟩, ?_⟩
 rintro aZ _ bS ⟨S, T, U, V, t, a2, W, rfl, aB, b, i, f, d, l, j, a3⟩
 have H := aA aZ _ aB
 clear aA aB
 try dsimp only at H ⊢
 apply brc H<;>intro h H
 ·obtain ⟨⟨aC, aD⟩, H⟩ := H
  obtain ⟨b0, b1, b2, b3, b4, b5, b6, b7, b8, b9, ba, bb, bc⟩ := RowW.at aK aC aD
  refine ⟨aC, aD, b0, b1, _, (Ext.cell b b6), _, _, _, (Ext.cell b b7), _, _, _, (Ext.cell b b8), ?_⟩
  refine qaL (fun bd bT C be X => ?_)
  have bf := d.ne C
  have bg := i.ne C
  have bh := l.qaD C
  have bi := j.qaD C
  have aj := f.qdp C
  have d := d.ext X
  have l := l.ext X
  have j := j.ext X
  have f := f.ext X
  have p := be
  have C := Nat.le_trans b.size C
  have b := qa6 b X
  refine qda p (o := 0) (cs' := #[(iv ((rd k.Warps S).Number)), (sv b2 ((rd k.Warps S).Frames.length) b3), (sv b4 ((rd k.Warps S).Regs.length) b5)]) rfl rfl (Nat.le_of_ble_eq_true rfl) rfl (fun bj p Y => ?_)
  have bk := d.chg Y bf
  have i := (i.ext X).chg Y bg
  have bl := l.chg Y bh
  have bm := j.chg Y bi
  have bn := f.chg Y aj
  have f := bn
  refine ⟨(InB t), _, _, _, ⟨(qfb (fun c => (f.qd0 i (by decide) (by decide) (by decide)) (Or.inl c)) (by first | rfl | (simp only [qcT]))), (i.a 1)⟩, _, ⟨(qfb (fun c => aj (Or.inl c)) (by first | rfl | (simp only [qcT]))), (p.a 0)⟩, _, _, _, ⟨(qfb (fun c => aj (Or.inl c)) (by first | rfl | (simp only [qcT]))), (p.a 1)⟩, _, _, _, ⟨(qfb (fun c => aj (Or.inl c)) (by first | rfl | (simp only [qcT]))), (p.a 2)⟩, ?_⟩
  have d := bk.ext (Ext.drew _)
  have i := i.ext (Ext.drew _)
  have l := bl.ext (Ext.drew _)
  have j := bm.ext (Ext.drew _)
  have f := f.ext (Ext.drew _)
  have p := p.ext (Ext.drew _)
  have b := qa6 (echg b Y C) (Ext.drew _)
  have q := (Chg.refl (InB t) bj).then (Ext.drew _)
  obtain ⟨bo, H⟩ := H
  obtain ⟨a4, bp, H⟩ := qaa H
  refine (cllA (qcO.con bo bp (b9.ext b) ba (bb.ext b) bc)).mono ?_
  rintro _ bU ⟨G, aE, I, aF, rfl, a5, a6, E⟩
  have bq := aN j a5
  have br := f.qf8 a5 (Nat.le_refl _)
  have bs := a5.qap p.lt
  have bt := aN j a6
  have bu := f.qf8 a6 (Nat.le_refl _)
  have bv := a6.qap p.lt
  have j := j.ext E
  have f := f.ext E
  have p := p.ext E
  have bw := (a5.mono q.size).low
  have bz := (a6.mono q.size).low
  have bA := a5.mono b.size
  have bB := a6.mono b.size
  have b := qa6 b E
  have q := q.then E
  refine ⟨a4.Number, trivial, G, a4.Frames.length, aE, trivial, I, a4.Regs.length, aF, trivial, rfl, qaw q, ?_⟩
  refine qaz (elH 52) ([⟨a4, G, aE, I, aF⟩] : List HW) (fun _ => by kernel_rfl) rfl (fun ak bV a7 u => ?_)
  have bD : OwnW 52 el91 el3 _ _ _ _ _ _ := OwnW.one (a7.mono b.size) (bA.ext u) (bB.ext u)
  have bE : Dis (InW ak (fun g => InB G g ∨ InB I g)) (InB s) := fun g c J => c.elim (fun c => (Own.qev j a7 (Nat.le_refl _)).inb g J c) (fun c => c.elim (fun c => ((bq).symm).inb g c J) (fun c => ((bt).symm).inb g c J))
  have bF : Dis (InW ak (fun g => InB G g ∨ InB I g)) (InW t W) := fun g c J => c.elim (fun c => f.qf8 a7 (Nat.le_refl _) g J c) (fun c => c.elim (fun c => br g J c) (fun c => bu g J c))
  have bW : ¬ InW ak (fun g => InB G g ∨ InB I g) bd := fun c => c.elim (fun c => a7.qap p.lt |>.inb c) (fun c => c.elim (bs).inb (bv).inb)
  have d := (d.ext E).ext u
  have i := (i.ext E).ext u
  have l := (l.ext E).ext u
  have j := j.ext u
  have f := f.ext u
  have bX : ∀ g, InW ak (fun g => InB G g ∨ InB I g) g → _ := fun g c => c.elim ((a7.mono q.size).low g) (fun c => c.elim (fun c => bw g c) (fun c => bz g c))
  have bG := bD
  have b := qa6 b u
  have q := q.then u
  refine ⟨qaw q, ?_⟩
  obtain ⟨bH, H⟩ := H
  refine qm1 qnx qnx.under f bG (bF).symm (by decide) (by decide) b.size rfl (by first | rfl | omega | (simp; done) | (simp; omega)) bH (fun aG aH bY bI K => ?_)
  have d := d.app K (fun L N O => (f.qd0 d (by decide) (by decide) (by decide)) (Or.inl ⟨L, N, O⟩))
  have i := i.app K (fun L N O => (f.qd0 i (by decide) (by decide) (by decide)) (Or.inl ⟨L, N, O⟩))
  have l := l.app K (fun L b_ N O ap => (f.qfe l (by decide) (by decide) (by decide)) _ (Or.inl ⟨b_, O, rfl⟩) ⟨L, N, ap⟩)
  have bJ := qmr a3 bE K j
  have j := j.app K (fun L b_ N O ap => a3 _ (Or.inl ⟨b_, O, rfl⟩) ⟨L, N, ap⟩)
  have a3 := bJ
  have q := q.app K (fun g c => (Or.inr c))
  have b := qph b K f
  have f := bI
  refine ⟨qaw q, ?_⟩
  refine stB i 1 #[(sv y v.length z), (sv aG (((T ++ ([a4] : List D.Warp))).length) aH), (sv s x.length A), (iv U), (iv V)] (fun bZ bK a8 => ?_)
  have d := d.chg a8 aU
  have l := l.chg a8 (l.qa3 i (by decide))
  have j := j.chg a8 (j.qa3 i (by decide))
  have f := f.chg a8 (f.qd0 i (by decide) (by decide) (by decide))
  have b := echg b a8 aS
  have i := bK
  obtain ⟨bL, bM, bN⟩ := H
  exact ⟨bL, bM, _, _, U, V, aG, aH, (fun g => W g ∨ (fun g => InB G g ∨ InB I g) g), rfl, bN, b, i, f, d, l, j, a3⟩
 refine ⟨_, _, _, (i.a 0), _, _, _, (i.a 1), _, _, _, (i.a 2), _, (i.a 3), _, (i.a 4), ?_⟩
 refine stB d 0 #[(sv y v.length z), (sv t T.length a2), (sv s x.length A), (iv U), (iv V)] (fun c0 P5 al => ?_)
 have l := l.chg al (l.qa3 d (by decide))
 have j := j.chg al (j.qa3 d (by decide))
 have f := f.chg al (f.qd0 d (by decide) (by decide) (by decide))
 have b := echg b al L5
 have d := P5
 refine ⟨_, _, _, (d.a 0), _, _, _, (d.a 1), _, _, _, (d.a 2), _, (d.a 3), _, (d.a 4), ?_⟩
 cases hr.trans H.symm
 exact ⟨y, z, t, a2, W, s, A, rfl, l, f, j, a3, b⟩
def qbr.vc (e : Int) (f : OA) (g h : Nat) (i : OA) (j k : Nat) (a : Int) (w : World) (K : VK) : Prop :=
  newK w (.cells #[(iv e), (sv f g h), (sv i j k)] 52) fun l c => ldS c (((bx l).add 2).add 0) fun d m b => ((0 : Int) ≤ (wrap .i64 ((wrap .i64 (a + 1)) * 4)) ∧ (wrap .i64 ((wrap .i64 (a + 1)) * 4)) ≤ ((b : Nat) : Int) ∧ ((0 : Int) ≤ (wrap .i64 (a * 4)) ∧ (wrap .i64 (a * 4)) ≤ ((((wrap .i64 ((wrap .i64 (a + 1)) * 4)).toNat) : Nat) : Int) ∧ K (sv (if b = ((wrap .i64 (a * 4)).toNat) then d else d.map (·.add (((wrap .i64 (a * 4)).toNat) * szOf Tryz.prog 3))) (((wrap .i64 ((wrap .i64 (a + 1)) * 4)).toNat) - ((wrap .i64 (a * 4)).toNat)) (b - ((wrap .i64 (a * 4)).toNat))) c))

def qbr.ann : Ann := (.seq .l (.seq .l .l))

theorem qbr.qpS (x0_0 : Int) (A0_1 : OA) (n0_1 c0_1 : Nat) (A0_2 : OA) (n0_2 c0_2 : Nat) (x1 : Int) (w : World) (K : Value → World → Prop) : vcF Tryz.prog Tryz.f107 qbr.ann [(.agg #[(iv x0_0), (sv A0_1 n0_1 c0_1), (sv A0_2 n0_2 c0_2)]), (iv x1)] K w = qbr.vc x0_0 A0_1 n0_1 c0_1 A0_2 n0_2 c0_2 x1 w K := by kernel_rfl

theorem qbr.start {x0_0 : Int} {A0_1 : OA} {n0_1 c0_1 : Nat} {A0_2 : OA} {n0_2 c0_2 : Nat} {x1 : Int} {w : World} {K : Value → World → Prop} (h : qbr.vc x0_0 A0_1 n0_1 c0_1 A0_2 n0_2 c0_2 x1 w K) : Cl 107 #[(.agg #[(iv x0_0), (sv A0_1 n0_1 c0_1), (sv A0_2 n0_2 c0_2)]), (iv x1)] w K :=
  qdM mixed (fn := Tryz.f107) (by kernel_rfl) (by kernel_rfl) (an := qbr.ann) (args := [(.agg #[(iv x0_0), (sv A0_1 n0_1 c0_1), (sv A0_2 n0_2 c0_2)]), (iv x1)]) (by rw [qbr.qpS]; exact h)
end Go.V
set_option linter.unusedVariables false
set_option linter.unusedSimpArgs false
set_option maxRecDepth 100000
namespace Go.V
open IntKind (wrap)
open Go.Proofs
/-- a lane's registers: a cut of the warp's -/
theorem qbr.con {b : D.Warp} {f : Option Addr} {h : Nat} {d : Option Addr} {c : Nat} {a : Int} {w : World} (i : M.qdS b a) (o : Row el91 w f b.Frames) (p : b.Frames.length ≤ h) (q : Row el3 w d b.Regs) (r : b.Regs.length ≤ c) :
    Cll Tryz.prog 107 #[(.agg #[(.int .i64 b.Number), (.slice f b.Frames.length h), (.slice d b.Regs.length c)]), (.int .i64 a)] w (fun j k => j = (.slice (cutA c ((IntKind.wrap .i64 (a * 4)).toNat) d 1) (List.drop ((IntKind.wrap .i64 (a * 4)).toNat) (List.take ((IntKind.wrap .i64 ((IntKind.wrap .i64 (a + 1)) * 4)).toNat) b.Regs)).length (c - (IntKind.wrap .i64 (a * 4)).toNat)) ∧ Ext w k) := by
  obtain ⟨s, t, u⟩ := i
  refine qbr.start ?_
  unfold qbr.vc
  refine qaL fun g v L P e => ?_
  have l : IntKind.wrap .i64 (a * 4) = a * 4 := w64 (by omega) (by omega)
  have m : IntKind.wrap .i64 ((IntKind.wrap .i64 (a + 1)) * 4) = a * 4 + 4 := by rw [w64 (x := a + 1) (by omega) (by omega), w64 (by omega) (by omega)]; omega
  refine ⟨_, _, _, P.at 2 rfl rfl, ?_⟩
  rw [l, m]
  refine ⟨by omega, by omega, by omega, by omega, ?_, e⟩
  have n : (List.drop (a * 4).toNat (List.take (a * 4 + 4).toNat b.Regs)).length = (a * 4 + 4).toNat - (a * 4).toNat := by simp; omega
  rw [n]
  have hz : szOf Tryz.prog 3 = 1 := by kernel_rfl
  rw [hz]
  rfl
theorem qbr.cut {x : D.Warp} {l : Int} (h : M.qdS x l) : (IntKind.wrap .i64 (l * 4)).toNat ≤ (List.take ((IntKind.wrap .i64 ((IntKind.wrap .i64 (l + 1)) * 4)).toNat) x.Regs).length := by
  obtain ⟨h1, h2, h3⟩ := h
  rw [w64 (x := l * 4) (by omega) (by omega), w64 (x := l + 1) (by omega) (by omega), w64 (by omega) (by omega), List.length_take]
  omega
def qbM.vc (d : Int) (e : OA) (f g : Nat) (h : OA) (i j : Nat) (w : World) (K : VK) : Prop :=
  newK w (.cells #[(iv d), (sv e f g), (sv h i j)] 52) fun b a => ldS a (((bx b).add 1).add 0) fun p k q => qa1 (((k : Nat) : Int) == 0) (K (iv 0) a) (ldS a (((bx b).add 1).add 0) fun l m r => ldS a (((bx b).add 1).add 0) fun s c t => (idx (wrap .i64 (((c : Nat) : Int) - 1)) m l fun n => ldI a (((n.add (((wrap .i64 (((c : Nat) : Int) - 1)).toNat) * 3)).add 2).add 0) fun o => K (iv o) a))

def qbM.ann : Ann := (.seq .l (.seq (.seq .l (.two (.seq .l .l) .l)) (.seq .l .l)))

theorem qbM.con {b : D.Warp} {c d : OA} {e f : Nat} {r : Int} {w : World} (m : M.qea b) (j : r = M.qbM b) (n : Row el91 w c b.Frames) (v : b.Frames.length ≤ e) (x : Row el3 w d b.Regs) (y : b.Regs.length ≤ f) :
    Cl 100 #[(.agg (wC c e d f b))] w (fun o p => o = (iv r) ∧ Ext w p) := by
 have H := wp.qbM.math b m
 refine begK mixed Tryz.f100 ann (vc b.Number c b.Frames.length e d b.Regs.length f) ?_
 unfold vc
 unfold wp.qbM at H
 refine qaL (fun z A B g q => ?_)
 have i := qa6 (Ext.refl w) q
 refine ⟨_, _, _, (g.a 1), ?_⟩
 apply brc H<;>intro h H
 ·cases j.trans H.symm
  exact ⟨rfl, i⟩
 refine ⟨_, _, _, (g.a 1), _, _, _, (g.a 1), ?_⟩
 obtain ⟨⟨k, l⟩, H⟩ := H
 obtain ⟨s, t, u⟩ := Row.at (n.ext i) k l
 refine ⟨k, l, s, t, _, (u 2 _ rfl), ?_⟩
 cases j.trans H.symm
 exact ⟨rfl, i⟩
def qaU.vc (k : Int) (l : OA) (m n : Nat) (o : OA) (p q : Nat) (f : Int) (w : World) (K : VK) : Prop :=
  newK w (.cells #[(iv k), (sv l m n), (sv o p q)] 52) fun b r => Cl 220 #[(iv f)] r fun s e => (∃ (h : Bool), s = (.bool h) ∧ qa1 (!h) (K (iv 0) e) (ldS e (((bx b).add 2).add 0) fun J t L => qa1 (((t : Nat) : Int) != 32) (K (iv 0) e) (qdh (σ := Int × Int × Unit) (fun a c g => qa1 (decide (a.2.1 < 8)) (ldI c ((bx b).add 0) fun u => ldS c ((bx b).add 1) fun v x y => ldS c ((bx b).add 2) fun z A B => Cl 100 #[(.agg #[(iv u), (sv v x y), (sv z A B)])] c fun C D => (∃ (i : Int), C = (iv i) ∧ Cl 101 #[(iv i), (iv a.2.1)] D fun E d => (∃ (j : Bool), E = (.bool j) ∧ qa1 j (ldS d (((bx b).add 2).add 0) fun F G M => (idx (wrap .i64 ((wrap .i64 (a.2.1 * 4)) + f)) G F fun H => ldI d ((H.add (((wrap .i64 ((wrap .i64 (a.2.1 * 4)) + f)).toNat) * 1)).add 0) fun I => qa1 (I == 0) (((0 : Int) ≤ a.2.1 ∧ g ((qh0 .i64 a.1 (wrap .i64 (1 * 2 ^ (min (a.2.1.toNat) (IntKind.bits .i64))))), (wrap .i64 (a.2.1 + 1)), ()) d)) (g (a.1, (wrap .i64 (a.2.1 + 1)), ()) d))) (g (a.1, (wrap .i64 (a.2.1 + 1)), ()) d)))) (K (iv a.1) c)) (0, 0, ()) e)))

def qaU.ann : Ann := (.seq .l (.seq (.seq .l (.two (.seq .l .l) .l)) (.seq .l (.seq (.seq .l (.one (.loop [(5, .int .i64), (6, .int .i64)] (.seq (.seq .l (.two .l .l)) (.seq (.one (.seq .l (.two .l .l))) .l))))) (.seq .l .l)))))

theorem qaU.con {d : D.Warp} {g i : OA} {j k : Nat} {e r : Int} {w : World} (y : M.qe7 d e) (m : r = M.qaU d e) (z : Row el91 w g d.Frames) (A : d.Frames.length ≤ j) (o : Row el3 w i d.Regs) (B : d.Regs.length ≤ k) :
    Cl 205 #[(.agg (wC g j i k d)), (iv e)] w (fun C l => C = (iv r) ∧ Ext w l) := by
 have H := wp.qaU.math d e y
 refine begK mixed Tryz.f205 ann (vc d.Number g d.Frames.length j i d.Regs.length k e) ?_
 unfold vc
 unfold wp.qaU at H
 refine qaL (fun E a9 L3 b F => ?_)
 obtain ⟨G, I, H⟩ := qaa H
 refine (qb8.con I ).mono ?_
 rintro _ aa ⟨rfl, p⟩
 have b := b.ext p
 have c := qa6 (qa6 (Ext.refl w) F) p
 refine ⟨G, rfl, ?_⟩
 apply brc H<;>intro h H
 ·cases m.trans H.symm
  exact ⟨rfl, c⟩
 refine ⟨_, _, _, (b.a 2), ?_⟩
 apply brc H<;>intro h H
 ·cases m.trans H.symm
  exact ⟨rfl, c⟩
 obtain ⟨J, ⟨K, L⟩, q⟩ := H
 refine ⟨fun N O l => ∃ (f n : Int), O = (f, n, ()) ∧ J N (f, n, ()) ∧ Ext w l ∧ Blk l E 52 (wC g j i k d), ⟨K, 0, 0, rfl, L, c, b⟩, ?_⟩
 rintro P _ ab ⟨f, n, rfl, s, c, b⟩
 have H := q P _ s
 clear q s
 try dsimp only at H ⊢
 apply brc H<;>intro h H
 ·refine ⟨_, (b.a 0), _, _, _, (b.a 1), _, _, _, (b.a 2), ?_⟩
  obtain ⟨Q, H⟩ := H
  obtain ⟨R, S, H⟩ := qaa H
  refine (qbM.con Q S (z.ext c) A (o.ext c) B).mono ?_
  rintro _ ac ⟨rfl, t⟩
  refine ⟨R, rfl, ?_⟩
  obtain ⟨T, U, H⟩ := qaa H
  refine (qbO.con U ).mono ?_
  rintro _ ad ⟨rfl, u⟩
  have b := (b.ext t).ext u
  have c := qa6 (qa6 c t) u
  refine ⟨T, rfl, ?_⟩
  apply brc H<;>intro h H
  ·refine ⟨_, _, _, (b.a 2), ?_⟩
   obtain ⟨⟨v, x⟩, H⟩ := H
   obtain ⟨W, X, Y⟩ := Row.at (o.ext c) v x
   refine ⟨v, x, W, X, _, (Y 0 _ rfl), ?_⟩
   apply brc H<;>intro h H
   ·obtain ⟨Z, H⟩ := H
    refine ⟨Z, ?_⟩
    obtain ⟨a0, a1, a2⟩ := H
    exact ⟨a0, a1, _, _, rfl, a2, c, b⟩
   obtain ⟨a3, a4, a5⟩ := H
   exact ⟨a3, a4, f, _, rfl, a5, c, b⟩
  obtain ⟨a6, a7, a8⟩ := H
  exact ⟨a6, a7, f, _, rfl, a8, c, b⟩
 cases m.trans H.symm
 exact ⟨rfl, c⟩
end Go.V
