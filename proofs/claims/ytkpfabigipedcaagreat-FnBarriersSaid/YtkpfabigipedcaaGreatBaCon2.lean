import Derived.Test.YtkpfabigipedcaaGreatBaCon1
namespace Go.V
open Go.Proofs
open IntKind (wrap)
set_option linter.unusedVariables false
set_option linter.unusedSimpArgs false
set_option maxRecDepth 100000
def qak.vc (b : OA) (c d g : Nat) (h : Array Value) (w : World) (K : VK) : Prop :=
  Cl 146 #[(sv b c d), (.func (.func g) #[] h)] w fun n i => (∃ (e : Int), n = (iv e) ∧ qa1 (e == (-1)) (K (sv b c d) i) (qdS (σ := Int × Int × Unit) (fun a f j => qa1 (decide (a.2.1 < ((c : Nat) : Int))) ((idx a.2.1 c b fun o => ldI f ((o.add ((a.2.1.toNat) * 1)).add 0) fun k => Cl g (#[(iv k)] ++ h) f fun p l => (∃ (m : Bool), p = (.bool m) ∧ qa1 (!m) ((idx a.1 c b fun q => qae (q.add ((a.1.toNat) * 1)) [(iv k)] 0 l fun r => j ((wrap .i64 (a.1 + 1)), (wrap .i64 (a.2.1 + 1)), ()) r)) (j (a.1, (wrap .i64 (a.2.1 + 1)), ()) l)))) (((0 : Int) ≤ a.1 ∧ a.1 ≤ ((c : Nat) : Int) ∧ Run Tryz.prog (Builtin.clear_ #[24] 0 #[(sv (if d = (a.1.toNat) then b else b.map (·.add ((a.1.toNat) * szOf Tryz.prog 3))) (c - (a.1.toNat)) (d - (a.1.toNat)))]) f fun s t => s = .tuple #[] ∧ ((0 : Int) ≤ a.1 ∧ a.1 ≤ ((d : Nat) : Int) ∧ K (sv b (a.1.toNat) d) t)))) (e, (wrap .i64 (e + 1)), ()) i))

def qak.ann : Ann := (.seq .l (.seq .l (.seq (.seq .l (.two (.seq .l .l) .l)) (.seq (.seq .l (.one (.loop [(5, .int .i64), (6, .int .i64)] (.seq (.seq .l (.two .l .l)) (.seq (.one (.seq .l (.seq .l (.two (.seq .l .l) .l)))) .l))))) (.seq .l (.seq .l .l))))))

theorem qak.start {A0 : OA} {n0 c0 f1 : Nat} {cap1 : Array Value} {w : World} {K : Value → World → Prop} (h : qak.vc A0 n0 c0 f1 cap1 w K) : Cl 212 #[(sv A0 n0 c0), (.func (.func f1) #[] cap1)] w K :=
  qdG mixed (fn := Tryz.f212) (by kernel_rfl) (by kernel_rfl) (an := qak.ann) (args := [(sv A0 n0 c0), (.func (.func f1) #[] cap1)]) (Eq.mpr (by kernel_rfl) h)

theorem qak.con {i r : List Int} {e : OA} {j z : Nat} {A : Array Value} {n : Int → Bool} {p : Int → Prop} {w : World} (K : M.qcR i n p) (B : r = M.qak i n) (a : Own el3 w 0 e j i) (C : ∀ (k : Int), p k → ∀ d : World, Chg (InB e) w d → Cl z (#[(iv k)] ++ A) d (fun q L => q = (.bool (n k)) ∧ Ext d L)) :
    Cl 212 #[(sv e i.length j), (.func (.func z) #[] A)] w (fun q d => ∃ (s : OA) (D : Nat), q = (sv s r.length D) ∧ Own el3 d 0 s D r ∧ Mov w e s ∧ Chg (InB e) w d) := by
 have H := wp.qak.math i n p K
 have b := Chg.refl (InB e) w
 refine qak.start ?_
 unfold vc
 unfold wp.qak at H
 obtain ⟨N, H⟩ := H
 obtain ⟨t, O, H⟩ := qaf H
 refine (qad.con N O a.row a.le (fun k  u d P => C k  u d (b.then P))).mono ?_
 rintro _ af ⟨rfl, E⟩
 have a := a.ext E
 have b := b.then E
 refine ⟨t, rfl, ?_⟩
 apply brc H<;>intro h H
 ·cases B.trans H.symm
  exact ⟨e, j, rfl, (a.mono (Nat.zero_le _)), (Mov.same _ _), b⟩
 obtain ⟨Q, ⟨R, S⟩, F⟩ := H
 refine ⟨fun T U d => ∃ (c m : Int) (f : List Int), U = (c, m, ()) ∧ Q T (c, m, f, ()) ∧ Chg (InB e) w d ∧ Own el3 d 0 e j f ∧ i.length = f.length, ⟨R, t, (wrap .i64 (t + 1)), i, rfl, S, b, a, (by first | rfl | assumption | omega | (simp; done) | (simp; omega) | (simp; assumption))⟩, ?_⟩
 rintro V _ ag ⟨c, m, f, rfl, G, b, a, ah⟩
 have H := F V _ G
 clear F G
 try dsimp only at H ⊢
 apply brc H<;>intro h H
 ·obtain ⟨⟨I, v⟩, H⟩ := H
  obtain ⟨W, X, Y⟩ := Row.at a.row I v
  refine ⟨I, (by first | exact v | omega | (simp at v ⊢; omega)), W, X, _, (Y 0 _ rfl), ?_⟩
  obtain ⟨Z, H⟩ := H
  obtain ⟨a0, a1, H⟩ := qaf H
  refine (C (rd f m) Z _ b).mono ?_
  rintro _ ai ⟨rfl, J⟩
  rw [← a1]
  have a := a.ext J
  have b := b.then J
  refine ⟨a0, rfl, ?_⟩
  apply brc H<;>intro h H
  ·obtain ⟨⟨x, o⟩, H⟩ := H
   obtain ⟨a2, y, aj⟩ := Row.at a.row x o
   refine ⟨x, (by first | exact o | omega | (simp at o ⊢; omega)), a2, y, ?_⟩
   refine Own.stA a y x o 0 (rd f m) (fun ak a a3 al => ?_)
   have b := b.chgb a3 (Or.inr ⟨_, y, rfl⟩)
   obtain ⟨a4, a5, a6⟩ := H
   exact ⟨a4, a5, _, _, _, rfl, a6, b, a, (by first | rfl | assumption | omega | (simp; done) | (simp; omega) | (simp; assumption))⟩
  obtain ⟨a7, a8, a9⟩ := H
  exact ⟨a7, a8, c, _, f, rfl, a9, b, a, (by first | rfl | assumption | omega | (simp; done) | (simp; omega) | (simp; assumption))⟩
 obtain ⟨⟨aa, ab⟩, H⟩ := H
 refine and_assoc.1 ⟨⟨aa, (by first | exact ab | omega)⟩, ?_⟩
 rw [show (i.length - (c.toNat)) = ((List.drop (c.toNat) f)).length from by first | rfl | (simp; done) | (simp; omega)]
 refine qkW qgP a (l := (c.toNat)) (by first | omega | (simp; omega)) (by first | rfl | (simp; done) | (simp; omega)) (fun am a ac => ?_)
 have b := b.app ac (fun g u => (Or.inr u))
 obtain ⟨⟨ad, ae⟩, H⟩ := H
 refine and_assoc.1 ⟨⟨ad, Int.le_trans ae (Int.ofNat_le.2 a.le)⟩, ?_⟩
 rw [show (c.toNat) = ((List.take (c.toNat) (List.take (c.toNat) f ++ List.replicate (f.length - (c.toNat)) default))).length from by first | rfl | (simp; done) | (simp; omega)]
 have O3 := (a.take (c.toNat))
 cases B.trans H.symm
 exact ⟨e, j, rfl, (O3.mono (Nat.zero_le _)), (Mov.same _ _), b⟩
def qbL.vc (b : Int) (c d : Addr) (w : World) (K : VK) : Prop :=
  ldS w (c.add 0) fun e f g => ldI w (d.add 0) fun h => Cl 239 #[(sv e f g), (iv h), (iv b)] w fun i j => (∃ (a : Bool), i = (.bool a) ∧ K (.bool (!a)) j)

def qbL.ann : Ann := (.seq .l (.seq .l .l))

theorem qbL.con {c d : Int} {b : List D.Ins} {f h g : Nat} {i : OA} {r : Bool} {w : World} (j : M.qeE c b d) (k : r = M.qbL c b d) (l : Blk w f 30 #[(sv i b.length h)]) (m : Row el84 w i b) (n : b.length ≤ h) (o : Blk w g 3 #[(iv d)]) :
    Cl 238 #[(iv c), (.pointer (some (bx f))), (.pointer (some (bx g)))] w (fun p q => p = (.bool r) ∧ Ext w q) := by
 have H := wp.qbL.math c b d j
 have e := Ext.refl w
 refine begK mixed Tryz.f238 ann (vc c (bx f) (bx g)) ?_
 unfold vc
 unfold wp.qbL at H
 refine ⟨_, _, _, (l.a 0), _, (o.a 0), ?_⟩
 obtain ⟨s, H⟩ := H
 obtain ⟨t, u, H⟩ := qaf H
 refine (qbN.con s u (m.ext e) n).mono ?_
 rintro _ x ⟨rfl, v⟩
 have e := qac e v
 refine ⟨t, rfl, ?_⟩
 cases k.trans H.symm
 exact ⟨rfl, e⟩
def qcD.vc (h : OA) (i j : Nat) (f : OA) (b k : Nat) (w : World) (K : VK) : Prop :=
  newK w (.cells #[(sv h i j)] 30) fun l m => qdS (σ := Int × Unit) (fun a c n => qa1 (decide (a.1 < ((b : Nat) : Int))) ((idx a.1 b f fun o => ldI c ((o.add ((a.1.toNat) * 1)).add 0) fun p => newK c (.cells #[(iv 0)] 3) fun d q => qae (bx d) [(iv p)] 0 q fun r => Cl 90 #[(sv f b k), (.func (.func 238) #[] #[(.pointer (some (bx l))), (.pointer (some (bx d)))])] r fun s e => (∃ (g : Bool), s = (.bool g) ∧ qa1 (!g) (ldI e ((bx d).add 0) fun t => K (iv t) e) (n ((wrap .i64 (a.1 + 1)), ()) e)))) (K (iv (-1)) c)) (0, ()) m

def qcD.ann : Ann := (.seq .l (.seq (.seq .l (.one (.loop [(9, .int .i64)] (.seq .l (.seq (.two .l .l) (.seq (.one (.seq .l (.seq .l (.two (.seq .l .l) .l)))) .l)))))) (.seq .l .l)))

theorem qcD.con {c : List D.Ins} {g l : OA} {i m : Nat} {d : List Int} {r : Int} {w : World} (y : M.qfb c d) (p : r = M.qcD c d) (z : Row el84 w g c) (A : c.length ≤ i) (q : Row el3 w l d) (B : d.length ≤ m) :
    Cl 211 #[(sv g c.length i), (sv l d.length m)] w (fun C f => C = (iv r) ∧ Ext w f) := by
 have H := wp.qcD.math c d y
 refine begK mixed Tryz.f211 ann (vc g c.length i l d.length m) ?_
 unfold vc
 unfold wp.qcD at H
 refine qbx (fun E Y Z e F => ?_)
 have b := qac (Ext.refl w) F
 obtain ⟨G, ⟨I, J⟩, s⟩ := H
 refine ⟨fun K L f => ∃ (j : Int), L = (j, ()) ∧ G K (j, ()) ∧ Ext w f ∧ Blk f E 30 #[(sv g c.length i)], ⟨I, 0, rfl, J, b, e⟩, ?_⟩
 rintro N _ a0 ⟨j, rfl, t, b, e⟩
 have H := s N _ t
 clear s t
 try dsimp only at H ⊢
 apply brc H<;>intro h H
 ·obtain ⟨⟨u, v⟩, H⟩ := H
  obtain ⟨O, P, Q⟩ := Row.at (q.ext b) u v
  refine ⟨u, v, O, P, _, (Q 0 _ rfl), ?_⟩
  refine qkc #[(iv (rd d j))] (fun a1 a2 L4 k x => ?_)
  have e := e.ext x
  have b := qac b x
  obtain ⟨R, H⟩ := H
  obtain ⟨S, T, H⟩ := qaf H
  refine (qa9.con R T (q.ext b) B (fun a3 U f n => qhB (l1 := [_]) (l2 := [_, _]) (qbL.con U rfl (e.ext n) (z.ext (qac b n)) A (k.ext n)))).mono ?_
  rintro _ a4 ⟨rfl, o⟩
  have e := e.ext o
  have k := k.ext o
  have b := qac b o
  refine ⟨S, rfl, ?_⟩
  apply brc H<;>intro h H
  ·refine ⟨_, (k.a 0), ?_⟩
   cases p.trans H.symm
   exact ⟨rfl, b⟩
  obtain ⟨V, W, X⟩ := H
  exact ⟨V, W, _, rfl, X, b, e⟩
 cases p.trans H.symm
 exact ⟨rfl, b⟩
def qbJ.vc (a : OA) (b c : Nat) (m : Int) (w : World) (K : VK) : Prop :=
  newK w (.cells #[(iv m)] 3) fun d e => ldI e ((bx d).add 0) fun n => Cl 213 #[(sv a b c), (iv n)] e fun o p => (∃ (f : OA) (g h : Nat), o = (sv f g h) ∧ Cl 212 #[(sv f g h), (.func (.func 214) #[] #[(.pointer (some (bx d)))])] p fun q r => (∃ (i : OA) (j k : Nat), q = (sv i j k) ∧ Cl 211 #[(sv a b c), (sv i j k)] r fun s t => (∃ (l : Int), s = (iv l) ∧ K (iv l) t)))

def qbJ.ann : Ann := (.seq .l (.seq .l .l))

theorem qbJ.con {c : List D.Ins} {f : OA} {g : Nat} {d r : Int} {w : World} (o : M.qep c d) (p : r = M.qbJ c d) (i : Row el84 w f c) (j : c.length ≤ g) :
    Cl 184 #[(sv f c.length g), (iv d)] w (fun q k => q = (iv r) ∧ Ext w k) := by
 have H := wp.qbJ.math c d o
 refine begK mixed Tryz.f184 ann (vc f c.length g d) ?_
 unfold vc
 unfold wp.qbJ at H
 refine qbx (fun S T U e s => ?_)
 have b := qac (Ext.refl w) s
 refine ⟨_, (e.a 0), ?_⟩
 obtain ⟨t, H⟩ := H
 obtain ⟨u, v, H⟩ := qaf H
 refine (qbA.con t v (i.ext b) j).mono ?_
 rintro _ V ⟨x, y, rfl, l, m⟩
 have z := l.qaI e.lt
 have e := e.ext m
 have h := l.mono b.size
 have b := qac b m
 refine ⟨x, u.length, y, rfl, ?_⟩
 obtain ⟨A, H⟩ := H
 obtain ⟨B, C, H⟩ := qaf H
 refine (qak.con A C (h.mono (Nat.zero_le _)) (fun W E k F => qhB (l1 := [_]) (l2 := [_]) (qbh.con E rfl (e.chgS F (z).inb)))).mono ?_
 rintro _ X ⟨G, I, rfl, J, K, L⟩
 have N := K.low h.low b.size
 have b := Chg.ext b L h.low
 have n := J.lift N
 refine ⟨G, B.length, I, rfl, ?_⟩
 obtain ⟨O, H⟩ := H
 obtain ⟨P, Q, H⟩ := qaf H
 refine (qcD.con O Q (i.ext b) j n.row n.le).mono ?_
 rintro _ Y ⟨rfl, R⟩
 have b := qac b R
 refine ⟨P, rfl, ?_⟩
 cases p.trans H.symm
 exact ⟨rfl, b⟩
def qbW.vc (b : OA) (a c : Nat) (e : Int) (w : World) (K : VK) : Prop :=
  Cl 148 #[(sv b a c), (iv e)] w fun n h => (∃ (i : Bool), n = (.bool i) ∧ qa1 (!i) (K (iv (-1)) h) (Cl 147 #[(sv b a c), (iv e)] h fun o p => (∃ (j : OA) (f q : Nat), o = (sv j f q) ∧ qdS (σ := Int × Unit) (fun d g r => qa1 (decide (d.1 < ((f : Nat) : Int))) ((idx d.1 f j fun s => ldI g ((s.add ((d.1.toNat) * 1)).add 0) fun t => Cl 183 #[(sv b a c), (iv t)] g fun u k => (∃ (l : Bool), u = (.bool l) ∧ qa1 (!l) (K (iv ((a : Nat) : Int)) k) (r ((wrap .i64 (d.1 + 1)), ()) k)))) (Cl 184 #[(sv b a c), (iv e)] g fun v x => (∃ (m : Int), v = (iv m) ∧ K (iv m) x))) (0, ()) p)))

def qbW.ann : Ann := (.seq .l (.seq (.seq .l (.two (.seq .l .l) .l)) (.seq (.seq .l (.one (.loop [(15, .int .i64)] (.seq .l (.seq (.two .l .l) (.seq (.one (.seq .l (.seq .l (.two (.seq .l .l) .l)))) .l)))))) (.seq .l .l))))

theorem qbW.con {b : List D.Ins} {i : OA} {j : Nat} {d r : Int} {w : World} (v : M.qeI b d) (k : r = M.qbW b d) (e : Row el84 w i b) (f : b.length ≤ j) :
    Cl 151 #[(sv i b.length j), (iv d)] w (fun x g => x = (iv r) ∧ Ext w g) := by
 have H := wp.qbW.math b d v
 have a := Ext.refl w
 refine begK mixed Tryz.f151 ann (vc i b.length j d) ?_
 unfold vc
 unfold wp.qbW at H
 obtain ⟨y, H⟩ := H
 obtain ⟨z, A, H⟩ := qaf H
 refine (qbZ.con y A (e.ext a) f).mono ?_
 rintro _ a2 ⟨rfl, B⟩
 have a := qac a B
 refine ⟨z, rfl, ?_⟩
 apply brc H<;>intro h H
 ·cases k.trans H.symm
  exact ⟨rfl, a⟩
 obtain ⟨C, H⟩ := H
 obtain ⟨m, E, H⟩ := qaf H
 refine (qcm.con C E (e.ext a) f).mono ?_
 rintro _ a3 ⟨n, o, rfl, F, G⟩
 have c := F.mono a.size
 have a := qac a G
 refine ⟨n, m.length, o, rfl, ?_⟩
 obtain ⟨I, ⟨J, K⟩, p⟩ := H
 refine ⟨fun L N g => ∃ (l : Int), N = (l, ()) ∧ I L (l, ()) ∧ Ext w g ∧ Own el3 g w.heap.size n o m, ⟨J, 0, rfl, K, a, c⟩, ?_⟩
 rintro O _ a4 ⟨l, rfl, q, a, c⟩
 have H := p O _ q
 clear p q
 try dsimp only at H ⊢
 apply brc H<;>intro h H
 ·obtain ⟨⟨s, t⟩, H⟩ := H
  obtain ⟨P, Q, R⟩ := Row.at c.row s t
  refine ⟨s, t, P, Q, _, (R 0 _ rfl), ?_⟩
  obtain ⟨S, H⟩ := H
  obtain ⟨T, U, H⟩ := qaf H
  refine (qbk.con S U (e.ext a) f).mono ?_
  rintro _ a5 ⟨rfl, u⟩
  have c := c.ext u
  have a := qac a u
  refine ⟨T, rfl, ?_⟩
  apply brc H<;>intro h H
  ·cases k.trans H.symm
   exact ⟨rfl, a⟩
  obtain ⟨V, W, X⟩ := H
  exact ⟨V, W, _, rfl, X, a, c⟩
 obtain ⟨Y, H⟩ := H
 obtain ⟨Z, a0, H⟩ := qaf H
 refine (qbJ.con Y a0 (e.ext a) f).mono ?_
 rintro _ a6 ⟨rfl, a1⟩
 have a := qac a a1
 refine ⟨Z, rfl, ?_⟩
 cases k.trans H.symm
 exact ⟨rfl, a⟩
def qdb.vc (o : OA) (c x : Nat) (w : World) (K : VK) : Prop :=
  Run Tryz.prog (Instr.buildSlice 24 0 #[]) w fun p q => ∃ (d : OA) (e f : Nat), p = .slice d e f ∧ qdS (σ := (OA × Nat × Nat) × Int × Unit) (fun a b g => qa1 (decide (a.2.1 < ((c : Nat) : Int))) ((idx a.2.1 c o fun r => ∃ (h : Bool), b.cell? ((r.add ((a.2.1.toNat) * 1)).add 0) = some (.bool h) ∧ qa1 h (Run Tryz.prog (Instr.buildSlice 24 1 #[(0, (iv a.2.1))]) b fun s t => ∃ (i : OA) (j k : Nat), s = .slice i j k ∧ Run Tryz.prog (Builtin.append_ #[24, 24] 24 #[(sv a.1.1 a.1.2.1 a.1.2.2), (sv i j k)]) t fun u v => ∃ (l : OA) (m n : Nat), u = .slice l m n ∧ g ((l, m, n), (wrap .i64 (a.2.1 + 1)), ()) v) (g ((a.1.1, a.1.2.1, a.1.2.2), (wrap .i64 (a.2.1 + 1)), ()) b))) (K (sv a.1.1 a.1.2.1 a.1.2.2) b)) ((d, e, f), 0, ()) q

def qdb.ann : Ann := (.seq .l (.seq .l (.seq (.seq .l (.one (.loop [(3, .sl), (9, .int .i64)] (.seq .l (.seq (.two .l .l) (.seq (.one (.seq .l (.seq .l (.two .l .l)))) .l)))))) (.seq .l .l))))

theorem qdb.con {c : List Bool} {j : OA} {k : Nat} {r : List Int} {w : World} (t : M.qfE c) (u : r = M.qdb c) (v : Row el4 w j c) (a0 : c.length ≤ k) :
    Cl 149 #[(sv j c.length k)] w (fun x d => ∃ (l : OA) (m : Nat), x = (sv l r.length m) ∧ Own el3 d w.heap.size l m r ∧ Ext w d) := by
 have H := wp.qdb.math c t
 have a := Ext.refl w
 refine begK mixed Tryz.f149 ann (vc j c.length k) ?_
 unfold vc
 unfold wp.qdb at H
 refine qaY el3 ([] : List Int) (fun _ => by kernel_rfl) rfl (fun y a1 z A => ?_)
 have B := z.mono a.size
 have a := qac a A
 obtain ⟨C, ⟨D, E⟩, n⟩ := H
 refine ⟨fun F G d => ∃ (e : List Int) (i : Int) (f : OA) (g : Nat), G = ((f, e.length, g), i, ()) ∧ C F (e, i, ()) ∧ Ext w d ∧ Own el3 d w.heap.size f g e, ⟨D, ([] : List Int), 0, y, 0, rfl, E, a, B⟩, ?_⟩
 rintro I _ a2 ⟨e, i, f, g, rfl, o, a, b⟩
 have H := n I _ o
 clear n o
 try dsimp only at H ⊢
 apply brc H<;>intro h H
 ·obtain ⟨⟨p, q⟩, H⟩ := H
  obtain ⟨J, K, L⟩ := Row.at (v.ext a) p q
  refine ⟨p, q, J, K, _, (L 0 _ rfl), ?_⟩
  apply brc H<;>intro h H
  ·refine qaY el3 ([i] : List Int) (fun _ => by kernel_rfl) rfl (fun a3 a4 N s => ?_)
   have b := b.ext s
   have O := N.mono a.size
   have a := qac a s
   obtain ⟨P, H⟩ := H
   refine appO qgP b O.row a.size P (fun Q R a5 S T => ?_)
   have a := eapp a T b
   have b := S
   obtain ⟨U, V, W⟩ := H
   exact ⟨U, V, _, _, Q, R, rfl, W, a, b⟩
  obtain ⟨X, Y, Z⟩ := H
  exact ⟨X, Y, e, _, f, g, rfl, Z, a, b⟩
 cases u.trans H.symm
 exact ⟨f, g, rfl, b, a⟩
def qbO.vc (a : OA) (b c : Nat) (d : Int) (w : World) (K : VK) : Prop :=
  Cl 148 #[(sv a b c), (iv d)] w fun q e => (∃ (f : Bool), q = (.bool f) ∧ qa1 (!f) (K (sv none 0 0) e) (Cl 147 #[(sv a b c), (iv d)] e fun r s => (∃ (g : OA) (h i : Nat), r = (sv g h i) ∧ Cl 151 #[(sv a b c), (iv d)] s fun t u => (∃ (j : Int), t = (iv j) ∧ Cl 150 #[(sv a b c), (sv g h i), (iv j)] u fun v x => (∃ (k : OA) (l m : Nat), v = (sv k l m) ∧ Cl 149 #[(sv k l m)] x fun y z => (∃ (n : OA) (o p : Nat), y = (sv n o p) ∧ K (sv n o p) z))))))

def qbO.ann : Ann := (.seq .l (.seq (.seq .l (.two (.seq .l .l) .l)) (.seq .l .l)))

theorem qbO.con {b : List D.Ins} {g : OA} {i : Nat} {c : Int} {r : List Int} {w : World} (s : M.qeU b c) (j : r = M.qbO b c) (d : Row el84 w g b) (e : b.length ≤ i) :
    Cl 93 #[(sv g b.length i), (iv c)] w (fun t k => ∃ (l : OA) (m : Nat), t = (sv l r.length m) ∧ Own el3 k w.heap.size l m r ∧ Ext w k) := by
 have H := wp.qbO.math b c s
 have a := Ext.refl w
 refine begK mixed Tryz.f93 ann (vc g b.length i c) ?_
 unfold vc
 unfold wp.qbO at H
 obtain ⟨u, H⟩ := H
 obtain ⟨v, x, H⟩ := qaf H
 refine (qbZ.con u x (d.ext a) e).mono ?_
 rintro _ Z ⟨rfl, y⟩
 have a := qac a y
 refine ⟨v, rfl, ?_⟩
 apply brc H<;>intro h H
 ·cases j.trans H.symm
  exact ⟨none, 0, rfl, Own.nil, a⟩
 obtain ⟨z, H⟩ := H
 obtain ⟨A, B, H⟩ := qaf H
 refine (qcm.con z B (d.ext a) e).mono ?_
 rintro _ a0 ⟨C, E, rfl, F, G⟩
 have f := F.mono a.size
 have a := qac a G
 refine ⟨C, A.length, E, rfl, ?_⟩
 obtain ⟨I, H⟩ := H
 obtain ⟨J, K, H⟩ := qaf H
 refine (qbW.con I K (d.ext a) e).mono ?_
 rintro _ a1 ⟨rfl, n⟩
 have f := f.ext n
 have a := qac a n
 refine ⟨J, rfl, ?_⟩
 obtain ⟨L, H⟩ := H
 obtain ⟨N, O, H⟩ := qaf H
 refine (qbF.con L O (d.ext a) e f.row f.le).mono ?_
 rintro _ a2 ⟨P, Q, rfl, R, S⟩
 have o := R.mono a.size
 have a := qac a S
 refine ⟨P, N.length, Q, rfl, ?_⟩
 obtain ⟨T, H⟩ := H
 obtain ⟨U, V, H⟩ := qaf H
 refine (qdb.con T V o.row o.le).mono ?_
 rintro _ a3 ⟨p, q, rfl, W, X⟩
 have Y := W.mono a.size
 have a := qac a X
 refine ⟨p, U.length, q, rfl, ?_⟩
 cases j.trans H.symm
 exact ⟨p, q, rfl, Y, a⟩
def qax.vc (a : Int) (b : Addr) (w : World) (K : VK) : Prop :=
  ldS w (b.add 0) fun h c i => qa1 (decide (a < ((c : Nat) : Int))) (ldS w (b.add 0) fun d e j => (idx a e d fun f => ldI w (((f.add ((a.toNat) * 4)).add 0).add 0) fun g => K (.bool (g == 16)) w)) (K (.bool false) w)

def qax.ann : Ann := (.seq .l (.seq .l .l))

theorem qax.con {c : Int} {b : List D.Ins} {d f : Nat} {g : OA} {r : Bool} {w : World} (m : M.qdk c b) (i : r = M.qax c b) (j : Blk w d 30 #[(sv g b.length f)]) (n : Row el84 w g b) (u : b.length ≤ f) :
    Cl 94 #[(iv c), (.pointer (some (bx d)))] w (fun o p => o = (.bool r) ∧ Ext w p) := by
 have H := wp.qax.math c b m
 have e := Ext.refl w
 refine begK mixed Tryz.f94 ann (vc c (bx d)) ?_
 unfold vc
 unfold wp.qax at H
 refine ⟨_, _, _, (j.a 0), ?_⟩
 apply brc H<;>intro h H
 ·refine ⟨_, _, _, (j.a 0), ?_⟩
  obtain ⟨⟨k, l⟩, H⟩ := H
  obtain ⟨q, s, t⟩ := Row.at (n.ext e) k l
  refine ⟨k, l, q, s, _, (t 0 _ rfl), ?_⟩
  cases i.trans H.symm
  exact ⟨rfl, e⟩
 cases i.trans H.symm
 exact ⟨rfl, e⟩
def qaU.vc (f : Int) (a : Addr) (w : World) (K : VK) : Prop :=
  ldS w (a.add 0) fun g h i => Cl 93 #[(sv g h i), (iv f)] w fun j k => (∃ (b : OA) (c d : Nat), j = (sv b c d) ∧ Cl 90 #[(sv b c d), (.func (.func 94) #[] #[(.pointer (some a))])] k fun l m => (∃ (e : Bool), l = (.bool e) ∧ K (.bool e) m))

def qaU.ann : Ann := (.seq .l (.seq .l .l))

theorem qaU.con {d : Int} {c : List D.Ins} {f g : Nat} {h : OA} {r : Bool} {w : World} (o : M.qdw d c) (p : r = M.qaU d c) (e : Blk w f 30 #[(sv h c.length g)]) (i : Row el84 w h c) (j : c.length ≤ g) :
    Cl 92 #[(iv d), (.pointer (some (bx f)))] w (fun q k => q = (.bool r) ∧ Ext w k) := by
 have H := wp.qaU.math d c o
 have b := Ext.refl w
 refine begK mixed Tryz.f92 ann (vc d (bx f)) ?_
 unfold vc
 unfold wp.qaU at H
 refine ⟨_, _, _, (e.a 0), ?_⟩
 obtain ⟨s, H⟩ := H
 obtain ⟨t, u, H⟩ := qaf H
 refine (qbO.con s u (i.ext b) j).mono ?_
 rintro _ F ⟨v, x, rfl, y, l⟩
 have e := e.ext l
 have m := y.mono b.size
 have b := qac b l
 refine ⟨v, t.length, x, rfl, ?_⟩
 obtain ⟨z, H⟩ := H
 obtain ⟨A, B, H⟩ := qaf H
 refine (qa9.con z B m.row m.le (fun G C k n => qhB (l1 := [_]) (l2 := [_]) (qax.con C rfl (e.ext n) (i.ext (qac b n)) j))).mono ?_
 rintro _ I ⟨rfl, E⟩
 have b := qac b E
 refine ⟨A, rfl, ?_⟩
 cases p.trans H.symm
 exact ⟨rfl, b⟩
def qbg.vc (i : OA) (j k : Nat) (w : World) (K : VK) : Prop :=
  newK w (.cells #[(sv i j k)] 30) fun a c => ldS c ((bx a).add 0) fun l m n => Cl 75 #[(sv l m n)] c fun o b => (∃ (d : Bool), o = (.bool d) ∧ qa1 d (ldS b ((bx a).add 0) fun p q r => Cl 91 #[(sv p q r)] b fun s t => (∃ (e : OA) (f g : Nat), s = (sv e f g) ∧ Cl 90 #[(sv e f g), (.func (.func 92) #[] #[(.pointer (some (bx a)))])] t fun u v => (∃ (h : Bool), u = (.bool h) ∧ K (.bool (!h)) v))) (K (.bool false) b))

def qbg.ann : Ann := (.seq .l (.seq .l .l))

theorem qbg.con {c : List D.Ins} {e : OA} {f : Nat} {r : Bool} {w : World} (p : M.qdf c) (j : r = M.qbg c) (g : Row el84 w e c) (i : c.length ≤ f) :
    Cl 40 #[(sv e c.length f)] w (fun q k => q = (.bool r) ∧ Ext w k) := by
 have H := wp.qbg.math c p
 refine begK mixed Tryz.f40 ann (vc e c.length f) ?_
 unfold vc
 unfold wp.qbg at H
 refine qbx (fun K L N d s => ?_)
 have b := qac (Ext.refl w) s
 refine ⟨_, _, _, (d.a 0), ?_⟩
 obtain ⟨t, H⟩ := H
 obtain ⟨u, v, H⟩ := qaf H
 refine (qaD.con t v (g.ext b) i).mono ?_
 rintro _ O ⟨rfl, l⟩
 have d := d.ext l
 have b := qac b l
 refine ⟨u, rfl, ?_⟩
 apply brc H<;>intro h H
 ·refine ⟨_, _, _, (d.a 0), ?_⟩
  obtain ⟨x, H⟩ := H
  obtain ⟨y, z, H⟩ := qaf H
  refine (qb4.con x z (g.ext b) i).mono ?_
  rintro _ P ⟨A, B, rfl, C, m⟩
  have d := d.ext m
  have n := C.mono b.size
  have b := qac b m
  refine ⟨A, y.length, B, rfl, ?_⟩
  obtain ⟨E, H⟩ := H
  obtain ⟨F, G, H⟩ := qaf H
  refine (qa9.con E G n.row n.le (fun Q I k o => qhB (l1 := [_]) (l2 := [_]) (qaU.con I rfl (d.ext o) (g.ext (qac b o)) i))).mono ?_
  rintro _ R ⟨rfl, J⟩
  have b := qac b J
  refine ⟨F, rfl, ?_⟩
  cases j.trans H.symm
  exact ⟨rfl, b⟩
 cases j.trans H.symm
 exact ⟨rfl, b⟩
def qaA.vc (a : Addr) (i : OA) (j Z : Nat) (w : World) (K : VK) : Prop :=
  ldS w ((a.add 1).add 0) fun an a0 ao => qa1 (decide ((wrap .i64 (((a0 : Nat) : Int) + 2)) > 24)) (K (.bool false) w) (ldS w ((a.add 1).add 0) fun a1 a2 ap => ldS w ((a.add 1).add 0) fun aq g ar => (idx (wrap .i64 (((g : Nat) : Int) - 1)) a2 a1 fun k => ∃ (b : Int), w.drew.cell? (((k.add (((wrap .i64 (((g : Nat) : Int) - 1)).toNat) * 3)).add 0).add 0) = some (iv b) ∧ ∃ (h : Int), w.drew.cell? (((k.add (((wrap .i64 (((g : Nat) : Int) - 1)).toNat) * 3)).add 2).add 0) = some (iv h) ∧ (∃ f : Nat → Prop, ∃ (m : Int), (¬ f (a).block ∧ w.drew.drew.cell? (a.add 0) = some (iv m)) ∧ ∃ (n : OA) (o p : Nat), (¬ f (a).block ∧ w.drew.drew.cell? (a.add 1) = some (sv n o p)) ∧ ∃ (q : OA) (r s : Nat), (¬ f (a).block ∧ w.drew.drew.cell? (a.add 2) = some (sv q r s)) ∧ (idx b j i fun t => ∃ (u : Int), (¬ f (((t.add ((b.toNat) * 4)).add 1)).block ∧ w.drew.drew.cell? (((t.add ((b.toNat) * 4)).add 1).add 0) = some (iv u)) ∧ Cl 166 #[(.agg #[(iv m), (sv n o p), (sv q r s)]), (iv u)] w.drew.drew.drew fun a3 v => (∃ (d : Int), a3 = (iv d) ∧ qaS f w.drew.drew v ∧ Cl 151 #[(sv i j Z), (iv b)] v fun a4 a5 => (∃ (c : Int), a4 = (iv c) ∧ qae ((k.add (((wrap .i64 (((g : Nat) : Int) - 1)).toNat) * 3)).add 0) [(iv c)] 0 a5 fun e => (idx b j i fun x => ((∃ (y : OA) (z A : Nat), e.drew.cell? ((a.add 1).add 0) = some (sv y z A) ∧ ((∃ (B : Int), e.drew.cell? (((x.add ((b.toNat) * 4)).add 2).add 0) = some (iv B) ∧ ((Run Tryz.prog (Instr.buildSlice 50 2 #[(0, (.agg #[(iv (wrap .i64 (b + 1))), (iv c), (iv (qdK .i64 h d))])), (1, (.agg #[(iv B), (iv c), (iv d)]))]) e.drew fun a6 a7 => ∃ (C : OA) (D E : Nat), a6 = .slice C D E ∧ ((Run Tryz.prog (Builtin.append_ #[50, 50] 50 #[(sv y z A), (sv C D E)]) a7 fun a8 a9 => ∃ (F : OA) (G H : Nat), a8 = .slice F G H ∧ ((qae (a.add 1) [(sv F G H)] 0 a9 fun aa => K (.bool true) aa) ∧ True)) ∧ True)) ∧ True)) ∧ True)) ∧ (∃ (l : Int), e.drew.cell? (((x.add ((b.toNat) * 4)).add 2).add 0) = some (iv l) ∧ ((∃ (I : OA) (J L : Nat), e.drew.cell? ((a.add 1).add 0) = some (sv I J L) ∧ ((Run Tryz.prog (Instr.buildSlice 50 2 #[(0, (.agg #[(iv (wrap .i64 (b + 1))), (iv c), (iv (qdK .i64 h d))])), (1, (.agg #[(iv l), (iv c), (iv d)]))]) e.drew fun ab ac => ∃ (M : OA) (N O : Nat), ab = .slice M N O ∧ ((Run Tryz.prog (Builtin.append_ #[50, 50] 50 #[(sv I J L), (sv M N O)]) ac fun ad ae => ∃ (P : OA) (Q R : Nat), ad = .slice P Q R ∧ ((qae (a.add 1) [(sv P Q R)] 0 ae fun af => K (.bool true) af) ∧ True)) ∧ True)) ∧ True)) ∧ (Run Tryz.prog (Instr.buildSlice 50 2 #[(0, (.agg #[(iv (wrap .i64 (b + 1))), (iv c), (iv (qdK .i64 h d))])), (1, (.agg #[(iv l), (iv c), (iv d)]))]) e.drew fun ag S => ∃ (T : OA) (U V : Nat), ag = .slice T U V ∧ ((ldS S ((a.add 1).add 0) fun ah ai aj => ((Run Tryz.prog (Builtin.append_ #[50, 50] 50 #[(sv ah ai aj), (sv T U V)]) S fun ak al => ∃ (W : OA) (X Y : Nat), ak = .slice W X Y ∧ ((qae (a.add 1) [(sv W X Y)] 0 al fun am => K (.bool true) am) ∧ True)) ∧ True)) ∧ True)) ∧ True)) ∧ True))))))))

def qaA.ann : Ann := (.seq .l (.seq (.seq .l (.two (.seq .l .l) .l)) (.seq .l (.seq .l (.seq .l (.seq .l (.seq .l (.seq .each (.seq .l .l)))))))))

theorem qaA.con {c : D.Warp} {p L t C N : Nat} {n q E : OA} {X : Array Value} {l : List D.Ins} {r : Bool × D.Warp} {w : World} (hp : M.qdN c l) (F : r = M.qaA c l) (d : Plc w p C 52 X (wC n L q t c)) (f : Own el91 w 0 n L c.Frames) (ah : Row el3 w q c.Regs) (ai : c.Regs.length ≤ t) (O : Row el84 w E l) (aj : l.length ≤ N) (ak : c.Regs ≠ [] → ∀ g, InB q g → ¬ (fun o => InB n o ∨ o = p) g) (P : l ≠ [] → ∀ g, InB E g → ¬ (fun o => InB n o ∨ o = p) g) :
    Cl 171 #[(.pointer (some (⟨p, C, none⟩ : Addr))), (sv E l.length N)] w (fun v_ Q => ∃ (R : OA) (Y : Nat), v_ = (.bool r.1) ∧ Plc Q p C 52 X (wC R Y q t r.2) ∧ Own el91 Q 0 R Y r.2.Frames ∧ Mov w n R ∧ r.2.Regs = c.Regs ∧ Chg (fun o => InB n o ∨ o = p) w Q) := by
 have H := wp.qaA.math c l hp
 have e := Chg.refl (fun o => InB n o ∨ o = p) w
 refine begK mixed Tryz.f171 ann (vc (⟨p, C, none⟩ : Addr) E l.length N) ?_
 unfold vc
 unfold wp.qaA at H
 refine ⟨_, _, _, (d.a 1), ?_⟩
 apply brc H<;>intro h H
 ·cases F.trans H.symm
  exact ⟨n, L, rfl, d, (f.mono (Nat.zero_le _)), (Mov.same _ _), rfl, e⟩
 refine ⟨_, _, _, (d.a 1), _, _, _, (d.a 1), ?_⟩
 obtain ⟨⟨v, s⟩, H⟩ := H
 obtain ⟨al, u, aJ⟩ := Row.at f.row v s
 refine ⟨v, s, al, u, ?_⟩
 have f := f.ext (Ext.drew _)
 have am := Row.re f.row u v (by first | exact s | omega | (simp at s ⊢; omega))
 refine ⟨_, (am 0 _ rfl), ?_⟩
 have an := Row.re f.row u v (by first | exact s | omega | (simp at s ⊢; omega))
 refine ⟨_, (an 2 _ rfl), ?_⟩
 have d := (d.ext (Ext.drew _)).ext (Ext.drew _)
 have e := (e.then (Ext.drew _)).then (Ext.drew _)
 refine ⟨(fun _ => False), _, noM (d.a 0), _, _, _, noM (d.a 1), _, _, _, noM (d.a 2), ?_⟩
 obtain ⟨⟨Z, a0⟩, H⟩ := H
 obtain ⟨ao, ap, aq⟩ := Row.at (O.chgS e P) Z a0
 refine ⟨Z, a0, ao, ap, _, ⟨(fun k => k), (aq 1 _ rfl)⟩, ?_⟩
 have d := d.ext (Ext.drew _)
 have f := (f.ext (Ext.drew _)).ext (Ext.drew _)
 have e := e.then (Ext.drew _)
 have S := (Chg.refl (fun _ => False) w.drew.drew).then (Ext.drew _)
 obtain ⟨ar, H⟩ := H
 obtain ⟨m, au, H⟩ := qaf H
 refine (qaz.con ar au f.row f.le (ah.chgS e ak) ai).mono ?_
 rintro _ aK ⟨rfl, G⟩
 have e := e.then G
 have S := S.then G
 refine ⟨m, rfl, qaj S, ?_⟩
 obtain ⟨av, H⟩ := H
 obtain ⟨i, aw, H⟩ := qaf H
 refine (qbW.con av aw (O.chgS e P) aj).mono ?_
 rintro _ aL ⟨rfl, T⟩
 have d := (d.ext G).ext T
 have f := (f.ext G).ext T
 refine ⟨i, rfl, ?_⟩
 refine Own.stA f u v s 0 (⟨i, (rd c.Frames (wrap .i64 ((c.Frames.length : Int) - 1))).Stop, (rd c.Frames (wrap .i64 ((c.Frames.length : Int) - 1))).Mask⟩ : D.Frame) (fun aM P2 a1 aN => ?_)
 have d := d.chg a1 (fun k => ((f.qa6 d.b (by decide))) _ u k.symm)
 have d := d.ext (Ext.drew _)
 have f := P2.ext (Ext.drew _)
 have e := ((e.then T).chgb a1 (Or.inr (Or.inl ⟨_, u, rfl⟩))).then (Ext.drew _)
 obtain ⟨⟨a2, a3⟩, H⟩ := H
 obtain ⟨ax, ay, a4⟩ := Row.at (O.chgS e P) a2 a3
 refine ⟨a2, a3, ax, ay, ?_⟩
 refine And.intro ?_ ?_
 ·have H := H.1
  refine ⟨_, _, _, (d.a 1), ?_⟩
  refine qcn ?_
  refine ⟨_, (a4 2 _ rfl), ?_⟩
  refine qcn ?_
  refine qaY el91 ([(⟨(wrap .i64 ((rd c.Frames (wrap .i64 ((c.Frames.length : Int) - 1))).Pc + 1)), i, (qdK .i64 ((rd c.Frames (wrap .i64 ((c.Frames.length : Int) - 1))).Mask) m)⟩ : D.Frame), (⟨(rd l ((rd c.Frames (wrap .i64 ((c.Frames.length : Int) - 1))).Pc)).B, i, m⟩ : D.Frame)] : List D.Frame) (fun _ => by kernel_rfl) rfl (fun aO aP P5 U => ?_)
  have d := d.ext U
  have f := f.ext U
  have O5 := P5.mono e.size
  have e := e.then U
  refine qcn ?_
  have x := f
  have a5 := Mov.same w n
  obtain ⟨az, H⟩ := H
  refine qfF qkw qkw.under x O5.row (Nat.zero_le _) (by first | rfl | omega | (simp; done) | (simp; omega)) (by first | rfl | omega | (simp; done) | (simp; omega)) az (fun a6 a7 aQ P6 I => ?_)
  have aA := Apart.app (x.qa6 d.b (by decide)) I d.lt
  have d := d.app I (x.qa6 d.b (by decide))
  have y := e.size
  have aB := Mov.trans a5 I.blk y
  refine qcn ?_
  refine qmH d (j := 1) (cs' := #[(iv c.Number), (sv a6 ((((List.set c.Frames ((wrap .i64 ((c.Frames.length : Int) - 1)).toNat) (⟨i, (rd c.Frames (wrap .i64 ((c.Frames.length : Int) - 1))).Stop, (rd c.Frames (wrap .i64 ((c.Frames.length : Int) - 1))).Mask⟩ : D.Frame)) ++ ([(⟨(wrap .i64 ((rd c.Frames (wrap .i64 ((c.Frames.length : Int) - 1))).Pc + 1)), i, (qdK .i64 ((rd c.Frames (wrap .i64 ((c.Frames.length : Int) - 1))).Mask) m)⟩ : D.Frame), (⟨(rd l ((rd c.Frames (wrap .i64 ((c.Frames.length : Int) - 1))).Pc)).B, i, m⟩ : D.Frame)] : List D.Frame))).length) a7), (sv q c.Regs.length t)]) rfl rfl (Nat.le_of_ble_eq_true rfl) rfl (fun aR d a8 => ?_)
  have x := P6.chg a8 aA
  have e := (e.app I (fun g k => (qfO a5 k (fun k => (Or.inl k))))).chgb a8 (Or.inr (Or.inr rfl))
  cases F.trans H.symm
  exact ⟨a6, a7, rfl, d, (x.mono (Nat.zero_le _)), aB, rfl, e⟩
 refine And.intro ?_ ?_
 ·have H := H.2.1
  refine ⟨_, (a4 2 _ rfl), ?_⟩
  refine And.intro ?_ ?_
  ·have H := H.1
   refine ⟨_, _, _, (d.a 1), ?_⟩
   refine qcn ?_
   refine qaY el91 ([(⟨(wrap .i64 ((rd c.Frames (wrap .i64 ((c.Frames.length : Int) - 1))).Pc + 1)), i, (qdK .i64 ((rd c.Frames (wrap .i64 ((c.Frames.length : Int) - 1))).Mask) m)⟩ : D.Frame), (⟨(rd l ((rd c.Frames (wrap .i64 ((c.Frames.length : Int) - 1))).Pc)).B, i, m⟩ : D.Frame)] : List D.Frame) (fun _ => by kernel_rfl) rfl (fun aS aT P7 V => ?_)
   have d := d.ext V
   have f := f.ext V
   have O7 := P7.mono e.size
   have e := e.then V
   refine qcn ?_
   have z := f
   have a9 := Mov.same w n
   obtain ⟨aC, H⟩ := H
   refine qfF qkw qkw.under z O7.row (Nat.zero_le _) (by first | rfl | omega | (simp; done) | (simp; omega)) (by first | rfl | omega | (simp; done) | (simp; omega)) aC (fun aa ab aU P8 J => ?_)
   have aD := Apart.app (z.qa6 d.b (by decide)) J d.lt
   have d := d.app J (z.qa6 d.b (by decide))
   have y := e.size
   have aE := Mov.trans a9 J.blk y
   refine qcn ?_
   refine qmH d (j := 1) (cs' := #[(iv c.Number), (sv aa ((((List.set c.Frames ((wrap .i64 ((c.Frames.length : Int) - 1)).toNat) (⟨i, (rd c.Frames (wrap .i64 ((c.Frames.length : Int) - 1))).Stop, (rd c.Frames (wrap .i64 ((c.Frames.length : Int) - 1))).Mask⟩ : D.Frame)) ++ ([(⟨(wrap .i64 ((rd c.Frames (wrap .i64 ((c.Frames.length : Int) - 1))).Pc + 1)), i, (qdK .i64 ((rd c.Frames (wrap .i64 ((c.Frames.length : Int) - 1))).Mask) m)⟩ : D.Frame), (⟨(rd l ((rd c.Frames (wrap .i64 ((c.Frames.length : Int) - 1))).Pc)).B, i, m⟩ : D.Frame)] : List D.Frame))).length) ab), (sv q c.Regs.length t)]) rfl rfl (Nat.le_of_ble_eq_true rfl) rfl (fun aV d ac => ?_)
   have z := P8.chg ac aD
   have e := (e.app J (fun g k => (qfO a9 k (fun k => (Or.inl k))))).chgb ac (Or.inr (Or.inr rfl))
   cases F.trans H.symm
   exact ⟨aa, ab, rfl, d, (z.mono (Nat.zero_le _)), aE, rfl, e⟩
  refine And.intro ?_ ?_
  ·have H := H.2.1
   refine qaY el91 ([(⟨(wrap .i64 ((rd c.Frames (wrap .i64 ((c.Frames.length : Int) - 1))).Pc + 1)), i, (qdK .i64 ((rd c.Frames (wrap .i64 ((c.Frames.length : Int) - 1))).Mask) m)⟩ : D.Frame), (⟨(rd l ((rd c.Frames (wrap .i64 ((c.Frames.length : Int) - 1))).Pc)).B, i, m⟩ : D.Frame)] : List D.Frame) (fun _ => by kernel_rfl) rfl (fun aW aX P9 W => ?_)
   have d := d.ext W
   have f := f.ext W
   have O9 := P9.mono e.size
   have e := e.then W
   refine qcn ?_
   refine ⟨_, _, _, (d.a 1), ?_⟩
   refine qcn ?_
   have A := f
   have ad := Mov.same w n
   obtain ⟨aF, H⟩ := H
   refine qfF qkw qkw.under A O9.row (Nat.zero_le _) (by first | rfl | omega | (simp; done) | (simp; omega)) (by first | rfl | omega | (simp; done) | (simp; omega)) aF (fun ae af aY aG K => ?_)
   have aH := Apart.app (A.qa6 d.b (by decide)) K d.lt
   have d := d.app K (A.qa6 d.b (by decide))
   have y := e.size
   have aI := Mov.trans ad K.blk y
   refine qcn ?_
   refine qmH d (j := 1) (cs' := #[(iv c.Number), (sv ae ((((List.set c.Frames ((wrap .i64 ((c.Frames.length : Int) - 1)).toNat) (⟨i, (rd c.Frames (wrap .i64 ((c.Frames.length : Int) - 1))).Stop, (rd c.Frames (wrap .i64 ((c.Frames.length : Int) - 1))).Mask⟩ : D.Frame)) ++ ([(⟨(wrap .i64 ((rd c.Frames (wrap .i64 ((c.Frames.length : Int) - 1))).Pc + 1)), i, (qdK .i64 ((rd c.Frames (wrap .i64 ((c.Frames.length : Int) - 1))).Mask) m)⟩ : D.Frame), (⟨(rd l ((rd c.Frames (wrap .i64 ((c.Frames.length : Int) - 1))).Pc)).B, i, m⟩ : D.Frame)] : List D.Frame))).length) af), (sv q c.Regs.length t)]) rfl rfl (Nat.le_of_ble_eq_true rfl) rfl (fun aZ d ag => ?_)
   have A := aG.chg ag aH
   have e := (e.app K (fun g k => (qfO ad k (fun k => (Or.inl k))))).chgb ag (Or.inr (Or.inr rfl))
   cases F.trans H.symm
   exact ⟨ae, af, rfl, d, (A.mono (Nat.zero_le _)), aI, rfl, e⟩
  exact trivial
 exact trivial
def qaP.vc (S T U V W : Int) (c : OA) (d c2 : Nat) (w : World) (K : VK) : Prop :=
  newK w (.cells #[(iv S), (iv T), (iv U), (iv V)] 84) fun b a => ldI a (((bx b).add 0).add 0) fun e => qa1 (e == 1) (ldI a (((bx b).add 1).add 0) fun m => ldI a (((bx b).add 2).add 0) fun X => (idx m d c fun Y => qae (Y.add ((m.toNat) * 1)) [(iv X)] 0 a fun Z => K (.tuple #[]) Z)) (qa1 (e == 2) ((∃ k : Nat → Prop, ldIM k a ((bx b).add 1) 0 fun n => ldIM k a ((bx b).add 2) 0 fun o => (idx o d c fun a0 => ldIM k a (a0.add ((o.toNat) * 1)) 0 fun a1 => (idx n d c fun a2 => qae (a2.add ((n.toNat) * 1)) [(iv a1)] 0 a.drew fun a3 => K (.tuple #[]) a3)))) (qa1 (e == 3) ((∃ f : Nat → Prop, ldIM f a ((bx b).add 1) 0 fun p => ldIM f a ((bx b).add 2) 0 fun q => (idx q d c fun a4 => ldIM f a (a4.add ((q.toNat) * 1)) 0 fun a5 => ldIM f a ((bx b).add 3) 0 fun r => (idx r d c fun a6 => ldIM f a (a6.add ((r.toNat) * 1)) 0 fun a7 => Cl 173 #[(iv a5), (iv a7)] a.drew fun a8 s => (∃ (t : Int), a8 = (iv t) ∧ qaS f a s ∧ (idx p d c fun a9 => qae (a9.add ((p.toNat) * 1)) [(iv t)] 0 s fun aa => K (.tuple #[]) aa)))))) (qa1 (e == 4) ((∃ g : Nat → Prop, ldIM g a ((bx b).add 1) 0 fun u => ldIM g a ((bx b).add 2) 0 fun v => (idx v d c fun ab => ldIM g a (ab.add ((v.toNat) * 1)) 0 fun ac => ldIM g a ((bx b).add 3) 0 fun x => (idx x d c fun ad => ldIM g a (ad.add ((x.toNat) * 1)) 0 fun ae => Cl 225 #[(iv ac), (iv ae)] a.drew fun af y => (∃ (z : Int), af = (iv z) ∧ qaS g a y ∧ (idx u d c fun ag => qae (ag.add ((u.toNat) * 1)) [(iv z)] 0 y fun ah => K (.tuple #[]) ah)))))) (qa1 (e == 5) ((∃ h : Nat → Prop, ldIM h a ((bx b).add 1) 0 fun A => ldIM h a ((bx b).add 2) 0 fun B => (idx B d c fun ai => ldIM h a (ai.add ((B.toNat) * 1)) 0 fun aj => ldIM h a ((bx b).add 3) 0 fun C => (idx C d c fun ak => ldIM h a (ak.add ((C.toNat) * 1)) 0 fun al => Cl 226 #[(iv aj), (iv al)] a.drew fun am D => (∃ (E : Int), am = (iv E) ∧ qaS h a D ∧ (idx A d c fun an => qae (an.add ((A.toNat) * 1)) [(iv E)] 0 D fun ao => K (.tuple #[]) ao)))))) (qa1 (e == 6) ((∃ j : Nat → Prop, ldIM j a ((bx b).add 1) 0 fun F => ldIM j a ((bx b).add 2) 0 fun G => (idx G d c fun ap => ldIM j a (ap.add ((G.toNat) * 1)) 0 fun aq => ldIM j a ((bx b).add 3) 0 fun H => (idx H d c fun ar => ldIM j a (ar.add ((H.toNat) * 1)) 0 fun au => (idx F d c fun av => qae (av.add ((F.toNat) * 1)) [(iv (qg8 .i64 aq au))] 0 a.drew fun aw => K (.tuple #[]) aw))))) (qa1 (e == 7) ((∃ i : Nat → Prop, ldIM i a ((bx b).add 1) 0 fun I => ldIM i a ((bx b).add 2) 0 fun J => (idx J d c fun ax => ldIM i a (ax.add ((J.toNat) * 1)) 0 fun ay => ldIM i a ((bx b).add 3) 0 fun L => (idx L d c fun az => ldIM i a (az.add ((L.toNat) * 1)) 0 fun aA => Cl 227 #[(iv ay), (iv aA)] a.drew fun aB M => (∃ (N : Int), aB = (iv N) ∧ qaS i a M ∧ (idx I d c fun aC => qae (aC.add ((I.toNat) * 1)) [(iv N)] 0 M fun aD => K (.tuple #[]) aD)))))) (qa1 (e == 8) (ldI a (((bx b).add 1).add 0) fun O => (idx O d c fun aE => qae (aE.add ((O.toNat) * 1)) [(iv W)] 0 a fun aF => K (.tuple #[]) aF)) (qa1 (e == 9) (ldI a (((bx b).add 3).add 0) fun P => (idx P d c fun aG => ldI a ((aG.add ((P.toNat) * 1)).add 0) fun aH => qa1 (aH != 0) ((∃ l : Nat → Prop, ldIM l a ((bx b).add 1) 0 fun Q => ldIM l a ((bx b).add 2) 0 fun R => (idx R d c fun aI => ldIM l a (aI.add ((R.toNat) * 1)) 0 fun aJ => (idx Q d c fun aK => qae (aK.add ((Q.toNat) * 1)) [(iv aJ)] 0 a.drew fun aL => K (.tuple #[]) aL)))) (K (.tuple #[]) a))) (K (.tuple #[]) a)))))))))

def qaP.ann : Ann := (.seq .l (.seq .l (.one (.seq .l (.two .l (.seq .l (.two .l (.seq .l (.two .l (.seq .l (.two .l (.seq .l (.two .l (.seq .l (.two .l (.seq .l (.two .l (.seq .l (.two .l (.seq .l (.two (.seq .l (.two .l .l)) .l)))))))))))))))))))))

theorem qaP.con {j : D.Ins} {n : Int} {k : List Int} {i d p : Nat} {q : OA} {r : (List Int)} {w : World} (hp : M.qfd j n k i d) (m : r = M.qaP j n k i d) (b : Own el3 w 0 q p k) (aP : i ≤ (List.take d k).length) :
    Cl 206 #[(.agg (iC j)), (iv n), (sv (cutA p i q 1) ((List.drop i (List.take d k)).length) (p - i))] w (fun v_ w_ => v_ = (.tuple #[]) ∧ Own el3 w_ 0 q p r ∧ r.length = k.length ∧ Chg (InB q) w w_) := by
 have H := wp.qaP.math j n k i d hp
 refine begK mixed Tryz.f206 ann (vc j.Op j.A j.B j.C n (cutA p i q 1) ((List.drop i (List.take d k)).length) (p - i)) ?_
 unfold vc
 unfold wp.qaP at H
 have e := (b.take d).drop (l := i) aP
 refine qbx (fun ca s L3 f t => ?_)
 have b := b.ext t
 have e := e.ext t
 have c := (Chg.refl (InB q) w).then t
 refine ⟨_, (f.a 0), ?_⟩
 apply brc H<;>intro h H
 ·refine ⟨_, (f.a 1), _, (f.a 2), ?_⟩
  obtain ⟨⟨u, v⟩, H⟩ := H
  obtain ⟨aQ, x, cb⟩ := Row.at e.row u v
  refine ⟨u, v, aQ, x, ?_⟩
  refine Own.qf3 (hi := d) b x u v 0 [(iv j.B)] j.B rfl (Nat.le_of_ble_eq_true rfl) rfl (fun cc b ae aR => ?_)
  obtain ⟨cd, aS, aT⟩ := qft x
  rw [← aT] at ae aR
  have c := c.chgb ae (Or.inr ⟨_, aS, rfl⟩)
  cases m.trans H.symm
  exact ⟨rfl, b, (by first | (simp only [bC, wC, List.length_set]; done) | (simp only [bC, wC, List.length_set, List.length_set]; done) | (simp; done) | (simp; omega) | omega), c⟩
 apply brc H<;>intro h H
 ·refine ⟨(fun _ => False), _, noM (f.a 1), _, noM (f.a 2), ?_⟩
  obtain ⟨⟨af, ag⟩, H⟩ := H
  obtain ⟨aU, aV, aW⟩ := Row.at e.row af ag
  refine ⟨af, ag, aU, aV, _, ⟨(fun g => g), (aW 0 _ rfl)⟩, ?_⟩
  obtain ⟨⟨y, z⟩, H⟩ := H
  obtain ⟨aX, E, ce⟩ := Row.at e.row y z
  refine ⟨y, z, aX, E, ?_⟩
  have b := b.ext (Ext.drew _)
  refine Own.qf3 (hi := d) b E y z 0 [(iv (rd (List.drop i (List.take d k)) j.B))] (rd (List.drop i (List.take d k)) j.B) rfl (Nat.le_of_ble_eq_true rfl) rfl (fun cf b ah aY => ?_)
  obtain ⟨cg, aZ, b0⟩ := qft E
  rw [← b0] at ah aY
  have c := (c.then (Ext.drew _)).chgb ah (Or.inr ⟨_, aZ, rfl⟩)
  cases m.trans H.symm
  exact ⟨rfl, b, (by first | (simp only [bC, wC, List.length_set]; done) | (simp only [bC, wC, List.length_set, List.length_set]; done) | (simp; done) | (simp; omega) | omega), c⟩
 apply brc H<;>intro h H
 ·refine ⟨(fun _ => False), ?_⟩
  have hBz := c
  have o := e
  refine ⟨_, noM (f.a 1), _, noM (f.a 2), ?_⟩
  obtain ⟨⟨ai, aj⟩, H⟩ := H
  obtain ⟨b1, b2, b3⟩ := Row.at e.row ai aj
  refine ⟨ai, aj, b1, b2, _, ⟨(fun g => g), (b3 0 _ rfl)⟩, _, noM (f.a 3), ?_⟩
  obtain ⟨⟨ak, al⟩, H⟩ := H
  obtain ⟨b4, b5, b6⟩ := Row.at e.row ak al
  refine ⟨ak, al, b4, b5, _, ⟨(fun g => g), (b6 0 _ rfl)⟩, ?_⟩
  have b := b.ext (Ext.drew _)
  have c := c.then (Ext.drew _)
  have F := (Chg.refl (fun _ => False) s).then (Ext.drew _)
  obtain ⟨G, b7, H⟩ := qaf H
  refine (qbG.con b7 ).mono ?_
  rintro _ ch ⟨rfl, I⟩
  have b := b.ext I
  have F := F.then I
  refine ⟨G, rfl, qaj F, ?_⟩
  obtain ⟨⟨J, K⟩, H⟩ := H
  obtain ⟨b8, L, ci⟩ := Row.at o.row J K
  refine ⟨J, K, b8, L, ?_⟩
  refine Own.qf3 (hi := d) b L J K 0 [(iv G)] G rfl (Nat.le_of_ble_eq_true rfl) rfl (fun cj b am b9 => ?_)
  obtain ⟨ck, ba, bb⟩ := qft L
  rw [← bb] at am b9
  have c := (c.then I).chgb am (Or.inr ⟨_, ba, rfl⟩)
  cases m.trans H.symm
  exact ⟨rfl, b, (by first | (simp only [bC, wC, List.length_set]; done) | (simp only [bC, wC, List.length_set, List.length_set]; done) | (simp; done) | (simp; omega) | omega), c⟩
 apply brc H<;>intro h H
 ·refine ⟨(fun _ => False), ?_⟩
  have hBz := c
  have o := e
  refine ⟨_, noM (f.a 1), _, noM (f.a 2), ?_⟩
  obtain ⟨⟨an, ao⟩, H⟩ := H
  obtain ⟨bc, bd, be⟩ := Row.at e.row an ao
  refine ⟨an, ao, bc, bd, _, ⟨(fun g => g), (be 0 _ rfl)⟩, _, noM (f.a 3), ?_⟩
  obtain ⟨⟨ap, aq⟩, H⟩ := H
  obtain ⟨bf, bg, bh⟩ := Row.at e.row ap aq
  refine ⟨ap, aq, bf, bg, _, ⟨(fun g => g), (bh 0 _ rfl)⟩, ?_⟩
  have b := b.ext (Ext.drew _)
  have c := c.then (Ext.drew _)
  have N := (Chg.refl (fun _ => False) s).then (Ext.drew _)
  obtain ⟨O, bi, H⟩ := qaf H
  refine (qc7.con bi ).mono ?_
  rintro _ cl ⟨rfl, P⟩
  have b := b.ext P
  have N := N.then P
  refine ⟨O, rfl, qaj N, ?_⟩
  obtain ⟨⟨Q, R⟩, H⟩ := H
  obtain ⟨bj, S, cm⟩ := Row.at o.row Q R
  refine ⟨Q, R, bj, S, ?_⟩
  refine Own.qf3 (hi := d) b S Q R 0 [(iv O)] O rfl (Nat.le_of_ble_eq_true rfl) rfl (fun cn b ar bk => ?_)
  obtain ⟨co, bl, bm⟩ := qft S
  rw [← bm] at ar bk
  have c := (c.then P).chgb ar (Or.inr ⟨_, bl, rfl⟩)
  cases m.trans H.symm
  exact ⟨rfl, b, (by first | (simp only [bC, wC, List.length_set]; done) | (simp only [bC, wC, List.length_set, List.length_set]; done) | (simp; done) | (simp; omega) | omega), c⟩
 apply brc H<;>intro h H
 ·refine ⟨(fun _ => False), ?_⟩
  have hBz := c
  have o := e
  refine ⟨_, noM (f.a 1), _, noM (f.a 2), ?_⟩
  obtain ⟨⟨au, av⟩, H⟩ := H
  obtain ⟨bn, bo, bp⟩ := Row.at e.row au av
  refine ⟨au, av, bn, bo, _, ⟨(fun g => g), (bp 0 _ rfl)⟩, _, noM (f.a 3), ?_⟩
  obtain ⟨⟨aw, ax⟩, H⟩ := H
  obtain ⟨bq, br, bs⟩ := Row.at e.row aw ax
  refine ⟨aw, ax, bq, br, _, ⟨(fun g => g), (bs 0 _ rfl)⟩, ?_⟩
  have b := b.ext (Ext.drew _)
  have c := c.then (Ext.drew _)
  have T := (Chg.refl (fun _ => False) s).then (Ext.drew _)
  obtain ⟨U, bt, H⟩ := qaf H
  refine (qbY.con bt ).mono ?_
  rintro _ cp ⟨rfl, V⟩
  have b := b.ext V
  have T := T.then V
  refine ⟨U, rfl, qaj T, ?_⟩
  obtain ⟨⟨W, X⟩, H⟩ := H
  obtain ⟨bu, Y, cq⟩ := Row.at o.row W X
  refine ⟨W, X, bu, Y, ?_⟩
  refine Own.qf3 (hi := d) b Y W X 0 [(iv U)] U rfl (Nat.le_of_ble_eq_true rfl) rfl (fun cr b ay bv => ?_)
  obtain ⟨cs, bw, bx⟩ := qft Y
  rw [← bx] at ay bv
  have c := (c.then V).chgb ay (Or.inr ⟨_, bw, rfl⟩)
  cases m.trans H.symm
  exact ⟨rfl, b, (by first | (simp only [bC, wC, List.length_set]; done) | (simp only [bC, wC, List.length_set, List.length_set]; done) | (simp; done) | (simp; omega) | omega), c⟩
 apply brc H<;>intro h H
 ·refine ⟨(fun _ => False), _, noM (f.a 1), _, noM (f.a 2), ?_⟩
  obtain ⟨⟨az, aA⟩, H⟩ := H
  obtain ⟨bz, bA, bB⟩ := Row.at e.row az aA
  refine ⟨az, aA, bz, bA, _, ⟨(fun g => g), (bB 0 _ rfl)⟩, _, noM (f.a 3), ?_⟩
  obtain ⟨⟨aB, aC⟩, H⟩ := H
  obtain ⟨bD, bE, bF⟩ := Row.at e.row aB aC
  refine ⟨aB, aC, bD, bE, _, ⟨(fun g => g), (bF 0 _ rfl)⟩, ?_⟩
  obtain ⟨⟨Z, a0⟩, H⟩ := H
  obtain ⟨bG, a1, ct⟩ := Row.at e.row Z a0
  refine ⟨Z, a0, bG, a1, ?_⟩
  have b := b.ext (Ext.drew _)
  refine Own.qf3 (hi := d) b a1 Z a0 0 [(iv (qg8 .i64 (rd (List.drop i (List.take d k)) j.B) (rd (List.drop i (List.take d k)) j.C)))] (qg8 .i64 (rd (List.drop i (List.take d k)) j.B) (rd (List.drop i (List.take d k)) j.C)) rfl (Nat.le_of_ble_eq_true rfl) rfl (fun cu b aD bH => ?_)
  obtain ⟨cv, bI, bJ⟩ := qft a1
  rw [← bJ] at aD bH
  have c := (c.then (Ext.drew _)).chgb aD (Or.inr ⟨_, bI, rfl⟩)
  cases m.trans H.symm
  exact ⟨rfl, b, (by first | (simp only [bC, wC, List.length_set]; done) | (simp only [bC, wC, List.length_set, List.length_set]; done) | (simp; done) | (simp; omega) | omega), c⟩
 apply brc H<;>intro h H
 ·refine ⟨(fun _ => False), ?_⟩
  have hBz := c
  have o := e
  refine ⟨_, noM (f.a 1), _, noM (f.a 2), ?_⟩
  obtain ⟨⟨aE, aF⟩, H⟩ := H
  obtain ⟨bK, bL, bM⟩ := Row.at e.row aE aF
  refine ⟨aE, aF, bK, bL, _, ⟨(fun g => g), (bM 0 _ rfl)⟩, _, noM (f.a 3), ?_⟩
  obtain ⟨⟨aG, aH⟩, H⟩ := H
  obtain ⟨bN, bO, bP⟩ := Row.at e.row aG aH
  refine ⟨aG, aH, bN, bO, _, ⟨(fun g => g), (bP 0 _ rfl)⟩, ?_⟩
  have b := b.ext (Ext.drew _)
  have c := c.then (Ext.drew _)
  have a2 := (Chg.refl (fun _ => False) s).then (Ext.drew _)
  obtain ⟨a3, bQ, H⟩ := qaf H
  refine (qbT.con bQ ).mono ?_
  rintro _ cw ⟨rfl, a4⟩
  have b := b.ext a4
  have a2 := a2.then a4
  refine ⟨a3, rfl, qaj a2, ?_⟩
  obtain ⟨⟨a5, a6⟩, H⟩ := H
  obtain ⟨bR, a7, cx⟩ := Row.at o.row a5 a6
  refine ⟨a5, a6, bR, a7, ?_⟩
  refine Own.qf3 (hi := d) b a7 a5 a6 0 [(iv a3)] a3 rfl (Nat.le_of_ble_eq_true rfl) rfl (fun cy b aI bS => ?_)
  obtain ⟨cz, bT, bU⟩ := qft a7
  rw [← bU] at aI bS
  have c := (c.then a4).chgb aI (Or.inr ⟨_, bT, rfl⟩)
  cases m.trans H.symm
  exact ⟨rfl, b, (by first | (simp only [bC, wC, List.length_set]; done) | (simp only [bC, wC, List.length_set, List.length_set]; done) | (simp; done) | (simp; omega) | omega), c⟩
 apply brc H<;>intro h H
 ·refine ⟨_, (f.a 1), ?_⟩
  obtain ⟨⟨a8, a9⟩, H⟩ := H
  obtain ⟨bV, aa, cA⟩ := Row.at e.row a8 a9
  refine ⟨a8, a9, bV, aa, ?_⟩
  refine Own.qf3 (hi := d) b aa a8 a9 0 [(iv n)] n rfl (Nat.le_of_ble_eq_true rfl) rfl (fun cB b aJ bW => ?_)
  obtain ⟨cC, bX, bY⟩ := qft aa
  rw [← bY] at aJ bW
  have c := c.chgb aJ (Or.inr ⟨_, bX, rfl⟩)
  cases m.trans H.symm
  exact ⟨rfl, b, (by first | (simp only [bC, wC, List.length_set]; done) | (simp only [bC, wC, List.length_set, List.length_set]; done) | (simp; done) | (simp; omega) | omega), c⟩
 apply brc H<;>intro h H
 ·refine ⟨_, (f.a 3), ?_⟩
  obtain ⟨⟨aK, aL⟩, H⟩ := H
  obtain ⟨bZ, c0, c1⟩ := Row.at e.row aK aL
  refine ⟨aK, aL, bZ, c0, _, (c1 0 _ rfl), ?_⟩
  apply brc H<;>intro h H
  ·refine ⟨(fun _ => False), _, noM (f.a 1), _, noM (f.a 2), ?_⟩
   obtain ⟨⟨aM, aN⟩, H⟩ := H
   obtain ⟨c3, c4, c5⟩ := Row.at e.row aM aN
   refine ⟨aM, aN, c3, c4, _, ⟨(fun g => g), (c5 0 _ rfl)⟩, ?_⟩
   obtain ⟨⟨ab, ac⟩, H⟩ := H
   obtain ⟨c6, ad, cD⟩ := Row.at e.row ab ac
   refine ⟨ab, ac, c6, ad, ?_⟩
   have b := b.ext (Ext.drew _)
   refine Own.qf3 (hi := d) b ad ab ac 0 [(iv (rd (List.drop i (List.take d k)) j.B))] (rd (List.drop i (List.take d k)) j.B) rfl (Nat.le_of_ble_eq_true rfl) rfl (fun cE b aO c7 => ?_)
   obtain ⟨cF, c8, c9⟩ := qft ad
   rw [← c9] at aO c7
   have c := (c.then (Ext.drew _)).chgb aO (Or.inr ⟨_, c8, rfl⟩)
   cases m.trans H.symm
   exact ⟨rfl, b, (by first | (simp only [bC, wC, List.length_set]; done) | (simp only [bC, wC, List.length_set, List.length_set]; done) | (simp; done) | (simp; omega) | omega), c⟩
  cases m.trans H.symm
  exact ⟨rfl, b, rfl, c⟩
 cases m.trans H.symm
 exact ⟨rfl, b, rfl, c⟩
def qaV.vc (c : Addr) (C : OA) (n c1 : Nat) (w : World) (K : VK) : Prop :=
  ldS w ((c.add 1).add 0) fun D E al => ldS w ((c.add 1).add 0) fun am e an => (idx (wrap .i64 (((e : Nat) : Int) - 1)) E D fun g => ∃ (h : Int), w.drew.cell? (((g.add (((wrap .i64 (((e : Nat) : Int) - 1)).toNat) * 3)).add 0).add 0) = some (iv h) ∧ (idx h n C fun i => ∃ (o : Int), w.drew.cell? ((i.add ((h.toNat) * 4)).add 0) = some (iv o) ∧ ∃ (p : Int), w.drew.cell? ((i.add ((h.toNat) * 4)).add 1) = some (iv p) ∧ ∃ (q : Int), w.drew.cell? ((i.add ((h.toNat) * 4)).add 2) = some (iv q) ∧ ∃ (r : Int), w.drew.cell? ((i.add ((h.toNat) * 4)).add 3) = some (iv r) ∧ newK w.drew (.cells #[(iv 0), (iv 0), (iv 0), (iv 0)] 84) fun b F => qae (bx b) [(iv o), (iv p), (iv q), (iv r)] 0 F fun s => ldI s (((g.add (((wrap .i64 (((e : Nat) : Int) - 1)).toNat) * 3)).add 2).add 0) fun G => Cl 105 #[(iv G)] s fun H I => (∃ (t : OA) (l J : Nat), H = (sv t l J) ∧ qdS (σ := Int × Unit) (fun j a L => qa1 (decide (j.1 < ((l : Nat) : Int))) ((idx j.1 l t fun M => ldI a ((M.add ((j.1.toNat) * 1)).add 0) fun u => (∃ d : Nat → Prop, ldIM d a (bx b) 0 fun N => ldIM d a (bx b) 1 fun O => ldIM d a (bx b) 2 fun P => ldIM d a (bx b) 3 fun Q => ldIM d a (c.add 0) 0 fun R => ldIM d a c 0 fun S => ldSM d a c 1 fun T U V => ldSM d a c 2 fun W X Y => Cl 107 #[(.agg #[(iv S), (sv T U V), (sv W X Y)]), (iv u)] a.drew fun Z v => (∃ (x : OA) (y z : Nat), Z = (sv x y z) ∧ qaS d a v ∧ Cl 206 #[(.agg #[(iv N), (iv O), (iv P), (iv Q)]), (iv (wrap .i64 ((wrap .i64 (R * 8)) + u))), (sv x y z)] v fun a0 a1 => (a0 = (.tuple #[]) ∧ L ((wrap .i64 (j.1 + 1)), ()) a1))))) (ldI a (((bx b).add 0).add 0) fun a2 => qa1 (a2 == 12) (qae ((g.add (((wrap .i64 (((e : Nat) : Int) - 1)).toNat) * 3)).add 0) [(iv ((n : Nat) : Int))] 0 a fun a3 => K (.tuple #[]) a3) (qgl (σ := Bool × Unit) (fun m => (∃ f : Nat → Prop, ldIM f a ((bx b).add 0) 0 fun a4 => qa1 (a4 == 11) (m (true, ()) a.drew) (ldIM f a ((bx b).add 0) 0 fun a5 => qa1 (a5 == 10) (ldIM f a c 0 fun a6 => ldSM f a c 1 fun a7 a8 a9 => ldSM f a c 2 fun aa ab ac => ldIM f a ((bx b).add 1) 0 fun ad => ldIM f a ((g.add (((wrap .i64 (((e : Nat) : Int) - 1)).toNat) * 3)).add 2) 0 fun ae => Cl 166 #[(.agg #[(iv a6), (sv a7 a8 a9), (sv aa ab ac)]), (iv ad)] a.drew fun af A => (∃ (B : Int), af = (iv B) ∧ qaS f a A ∧ m ((B == ae), ()) A)) (m (false, ()) a.drew)))) fun ag k => qa1 ag.1 (ldI k (((bx b).add 2).add 0) fun ah => qae ((g.add (((wrap .i64 (((e : Nat) : Int) - 1)).toNat) * 3)).add 0) [(iv ah)] 0 k fun ai => K (.tuple #[]) ai) (ldI k (((g.add (((wrap .i64 (((e : Nat) : Int) - 1)).toNat) * 3)).add 0).add 0) fun aj => qae ((g.add (((wrap .i64 (((e : Nat) : Int) - 1)).toNat) * 3)).add 0) [(iv (wrap .i64 (aj + 1)))] 0 k fun ak => K (.tuple #[]) ak)))) (0, ()) I)))

def qaV.ann : Ann := (.seq .l (.seq .l (.seq (.seq .l (.one (.loop [(32, .int .i64)] (.seq .l (.seq (.two .l .l) (.seq (.one (.seq .l .l)) .l)))))) (.one (.seq .l (.two .l (.cut [(67, .bool)] .l (.two .l .l))))))))

theorem qaV.con {e r : D.Warp} {t v u K W : Nat} {q p R : OA} {S : Array Value} {k : List D.Ins} {w : World} (hp : M.qdR e k) (X : r = M.qaV e k) (c : Plc w t K 52 S (wC q v p u e)) (d : Own el91 w 0 q v e.Frames) (f : Own el3 w 0 p u e.Regs) (R1 : Row el84 w R k) (aU : k.length ≤ W) (D1 : k ≠ [] → ∀ g, InB R g → ¬ (fun l => InB q l ∨ InB p l ∨ l = t) g) :
    Cl 172 #[(.pointer (some (⟨t, K, none⟩ : Addr))), (sv R k.length W)] w (fun v_ m => ∃ (Y : OA) (a6 : Nat) (Z : OA) (a7 : Nat), v_ = (.tuple #[]) ∧ Plc m t K 52 S (wC Y a6 Z a7 r) ∧ Own el91 m 0 Y a6 r.Frames ∧ Mov w q Y ∧ Own el3 m 0 Z a7 r.Regs ∧ Mov w p Z ∧ Chg (fun l => InB q l ∨ InB p l ∨ l = t) w m) := by
 have H := wp.qaV.math e k hp
 refine begK mixed Tryz.f172 ann (vc (⟨t, K, none⟩ : Addr) R k.length W) ?_
 unfold vc
 unfold wp.qaV at H
 refine ⟨_, _, _, (c.a 1), _, _, _, (c.a 1), ?_⟩
 obtain ⟨⟨x, s⟩, H⟩ := H
 obtain ⟨ak, n, aV⟩ := Row.at d.row x s
 refine ⟨x, s, ak, n, ?_⟩
 have c := c.ext (Ext.drew _)
 have d := d.ext (Ext.drew _)
 have f := f.ext (Ext.drew _)
 have i := (Chg.refl (fun l => InB q l ∨ InB p l ∨ l = t) w).then (Ext.drew _)
 have al := Row.re d.row n x (by first | exact s | omega | (simp at s ⊢; omega))
 refine ⟨_, (al 0 _ rfl), ?_⟩
 obtain ⟨⟨a8, a9⟩, H⟩ := H
 obtain ⟨am, an, T⟩ := Row.at (R1.chgS i D1) a8 a9
 refine ⟨a8, a9, am, an, _, (T 0 _ rfl), _, (T 1 _ rfl), _, (T 2 _ rfl), _, (T 3 _ rfl), ?_⟩
 refine qbx (fun aa aW L P5 U => ?_)
 have ao := c.ne L
 have ap := d.qbI L
 have ab := f.qbI L
 have c := c.ext U
 have f := f.ext U
 have j := P5
 have L := Nat.le_trans i.size L
 refine qd9 j (o := 0) (cs' := #[(iv ((rd k ((rd e.Frames (wrap .i64 ((e.Frames.length : Int) - 1))).Pc)).Op)), (iv ((rd k ((rd e.Frames (wrap .i64 ((e.Frames.length : Int) - 1))).Pc)).A)), (iv ((rd k ((rd e.Frames (wrap .i64 ((e.Frames.length : Int) - 1))).Pc)).B)), (iv ((rd k ((rd e.Frames (wrap .i64 ((e.Frames.length : Int) - 1))).Pc)).C))]) rfl rfl (Nat.le_of_ble_eq_true rfl) rfl (fun aX j V => ?_)
 have aq := c.chg V ao
 have d := (d.ext U).chg V ap
 have ar := f.chg V ab
 have f := ar
 have i := (i.then U).chgb V (Or.inl L)
 have au := Row.re d.row n x (by first | exact s | omega | (simp at s ⊢; omega))
 refine ⟨_, (au 2 _ rfl), ?_⟩
 obtain ⟨F, av, H⟩ := qaf H
 refine (qbM.con av ).mono ?_
 rintro _ aY ⟨ac, ad, rfl, P6, O⟩
 have aw := aN f P6
 have c := aq.ext O
 have d := d.ext O
 have f := f.ext O
 have j := j.ext O
 have G := P6.mono i.size
 have i := i.then O
 refine ⟨ac, F.length, ad, rfl, ?_⟩
 obtain ⟨ax, ⟨ay, az⟩, ae⟩ := H
 refine ⟨fun m_ z_ m => ∃ (y : Int) (I : List Int), z_ = (y, ()) ∧ ax m_ (y, I, ()) ∧ Chg (fun l => InB q l ∨ InB p l ∨ l = t) w m ∧ Own el3 m 0 p u I ∧ e.Regs.length = I.length ∧ Plc m t K 52 S (wC q v p u e) ∧ Own el91 m 0 q v e.Frames ∧ Blk m aa 84 #[(iv ((rd k ((rd e.Frames (wrap .i64 ((e.Frames.length : Int) - 1))).Pc)).Op)), (iv ((rd k ((rd e.Frames (wrap .i64 ((e.Frames.length : Int) - 1))).Pc)).A)), (iv ((rd k ((rd e.Frames (wrap .i64 ((e.Frames.length : Int) - 1))).Pc)).B)), (iv ((rd k ((rd e.Frames (wrap .i64 ((e.Frames.length : Int) - 1))).Pc)).C))] ∧ Own el3 m w.heap.size ac ad F, ⟨ay, 0, e.Regs, rfl, az, i, f, (by first | rfl | assumption | omega | (simp; done) | (simp; omega) | (simp; assumption)), c, d, j, G⟩, ?_⟩
 rintro aA _ af ⟨y, I, rfl, ag, i, f, z, c, d, j, G⟩
 have H := ae aA _ ag
 clear ae ag
 try dsimp only at H ⊢
 apply brc H<;>intro h H
 ·obtain ⟨⟨ah, ai⟩, H⟩ := H
  obtain ⟨aB, aC, aD⟩ := Row.at G.row ah ai
  refine ⟨ah, ai, aB, aC, _, (aD 0 _ rfl), (fun _ => False), _, noM (j.a 0), _, noM (j.a 1), _, noM (j.a 2), _, noM (j.a 3), _, noM (c.a 0), _, noM (c.a 0), _, _, _, noM (c.a 1), _, _, _, noM (c.a 2), ?_⟩
  have c := c.ext (Ext.drew _)
  have d := d.ext (Ext.drew _)
  have f := f.ext (Ext.drew _)
  have j := j.ext (Ext.drew _)
  have G := G.ext (Ext.drew _)
  have i := i.then (Ext.drew _)
  have a0 := (Chg.refl (fun _ => False) af).then (Ext.drew _)
  obtain ⟨aj, H⟩ := H
  refine (qho (by first | (simp only [bC, wC, List.length_set, ← z]; done) | (simp; done)) (qbc.con aj d.row d.le f.row f.le)).mono ?_
  rintro _ aZ ⟨rfl, J⟩
  have c := c.ext J
  have d := d.ext J
  have f := f.ext J
  have a0 := a0.then J
  have aE : ((wrap .i64 ((rd F y) * 4)).toNat) ≤ (List.take ((wrap .i64 ((wrap .i64 ((rd F y) + 1)) * 4)).toNat) I).length := qbc.cut aj
  refine ⟨(cutA u ((wrap .i64 ((rd F y) * 4)).toNat) p 1), (List.drop ((wrap .i64 ((rd F y) * 4)).toNat) (List.take ((wrap .i64 ((wrap .i64 ((rd F y) + 1)) * 4)).toNat) I)).length, (u - ((wrap .i64 ((rd F y) * 4)).toNat)), rfl, qaj a0, ?_⟩
  obtain ⟨aF, H⟩ := H
  obtain ⟨aG, aH, H⟩ := qaf H
  refine (qaP.con aF aH (f.mono (Nat.zero_le _)) aE).mono ?_
  rintro _ b0 ⟨rfl, Q3, aI, P⟩
  have c := c.chgS P ((f.qa6 c.b (by decide))).inb
  have d := d.chgS P ((Own.qaw d f (by decide))).inb
  have j := (j.ext J).chgS P (ab).inb
  have G := (G.ext J).chgS P ((aw).symm).inb
  have i := (i.then J).chg P (fun g E => (Or.inr (Or.inr (Or.inl E))))
  have f := Q3
  refine ⟨rfl, ?_⟩
  obtain ⟨aJ, aK, aL⟩ := H
  exact ⟨aJ, aK, _, aG, rfl, aL, i, f, (by first | rfl | assumption | omega | (simp; done) | (simp; omega) | (simp; assumption)), (by first | exact c | (simp only [bC, wC, List.length_set, ← z, aI]; exact c)), d, j, G⟩
 refine ⟨_, (j.a 0), ?_⟩
 apply brc H<;>intro h H
 ·refine Own.stA d n x s 0 (⟨(k.length : Int), (rd e.Frames (wrap .i64 ((e.Frames.length : Int) - 1))).Stop, (rd e.Frames (wrap .i64 ((e.Frames.length : Int) - 1))).Mask⟩ : D.Frame) (fun b1 Q a1 b2 => ?_)
  have c := c.chg a1 (fun E => ((d.qa6 c.b (by decide))) _ n E.symm)
  have f := f.chg a1 (((Own.qaw f d (by decide))).left n)
  have i := i.chgb a1 (Or.inr (Or.inl ⟨_, n, rfl⟩))
  have d := Q
  cases X.trans H.symm
  exact ⟨q, v, p, u, rfl, (by first | exact c | (simp only [bC, wC, List.length_set, ← z]; exact c)), (d.mono (Nat.zero_le _)), (Mov.same _ _), (f.mono (Nat.zero_le _)), (Mov.same _ _), i⟩
 obtain ⟨aM, aO, H⟩ := qdJ H
 refine ⟨fun z_ m => ∃ (a2 : Bool), z_ = (a2, ()) ∧ aM (a2, ()) ∧ Chg (fun l => InB q l ∨ InB p l ∨ l = t) w m ∧ Plc m t K 52 S (wC q v p u e) ∧ Own el91 m 0 q v e.Frames ∧ Own el3 m 0 p u I ∧ Blk m aa 84 #[(iv ((rd k ((rd e.Frames (wrap .i64 ((e.Frames.length : Int) - 1))).Pc)).Op)), (iv ((rd k ((rd e.Frames (wrap .i64 ((e.Frames.length : Int) - 1))).Pc)).A)), (iv ((rd k ((rd e.Frames (wrap .i64 ((e.Frames.length : Int) - 1))).Pc)).B)), (iv ((rd k ((rd e.Frames (wrap .i64 ((e.Frames.length : Int) - 1))).Pc)).C))], ?_, ?_⟩
 ·refine ⟨(fun _ => False), _, noM (j.a 0), ?_⟩
  apply brc H<;>intro h H
  ·have c := c.ext (Ext.drew _)
   have d := d.ext (Ext.drew _)
   have f := f.ext (Ext.drew _)
   have j := j.ext (Ext.drew _)
   have i := i.then (Ext.drew _)
   exact ⟨true, rfl, H, i, (by first | exact c | (simp only [bC, wC, List.length_set, ← z]; exact c)), d, f, j⟩
  refine ⟨_, noM (j.a 0), ?_⟩
  apply brc H<;>intro h H
  ·refine ⟨_, noM (c.a 0), _, _, _, noM (c.a 1), _, _, _, noM (c.a 2), _, noM (j.a 1), ?_⟩
   have aP := Row.re d.row n x (by first | exact s | omega | (simp at s ⊢; omega))
   refine ⟨_, ⟨(fun E => E), (aP 2 _ rfl)⟩, ?_⟩
   have c := c.ext (Ext.drew _)
   have d := d.ext (Ext.drew _)
   have f := f.ext (Ext.drew _)
   have j := j.ext (Ext.drew _)
   have i := i.then (Ext.drew _)
   have a3 := (Chg.refl (fun _ => False) af).then (Ext.drew _)
   obtain ⟨aQ, H⟩ := H
   obtain ⟨aR, aS, H⟩ := qaf H
   refine (qho (by first | (simp only [bC, wC, List.length_set, ← z]; done) | (simp; done)) (qaz.con aQ aS d.row d.le f.row f.le)).mono ?_
   rintro _ b3 ⟨rfl, N⟩
   have c := c.ext N
   have d := d.ext N
   have f := f.ext N
   have j := j.ext N
   have i := i.then N
   have a3 := a3.then N
   refine ⟨aR, rfl, qaj a3, ?_⟩
   exact ⟨_, rfl, H, i, (by first | exact c | (simp only [bC, wC, List.length_set, ← z]; exact c)), d, f, j⟩
  have c := c.ext (Ext.drew _)
  have d := d.ext (Ext.drew _)
  have f := f.ext (Ext.drew _)
  have j := j.ext (Ext.drew _)
  have i := i.then (Ext.drew _)
  exact ⟨_, rfl, H, i, (by first | exact c | (simp only [bC, wC, List.length_set, ← z]; exact c)), d, f, j⟩
 rintro _ b4 ⟨a2, rfl, H, i, c, d, f, j⟩
 have H := aO _ H
 try dsimp only at H ⊢
 apply brc H<;>intro h H
 ·refine ⟨_, (j.a 2), ?_⟩
  refine Own.stA d n x s 0 (⟨(rd k ((rd e.Frames (wrap .i64 ((e.Frames.length : Int) - 1))).Pc)).B, (rd e.Frames (wrap .i64 ((e.Frames.length : Int) - 1))).Stop, (rd e.Frames (wrap .i64 ((e.Frames.length : Int) - 1))).Mask⟩ : D.Frame) (fun b5 Q a4 b6 => ?_)
  have c := c.chg a4 (fun E => ((d.qa6 c.b (by decide))) _ n E.symm)
  have f := f.chg a4 (((Own.qaw f d (by decide))).left n)
  have i := i.chgb a4 (Or.inr (Or.inl ⟨_, n, rfl⟩))
  have d := Q
  cases X.trans H.symm
  exact ⟨q, v, p, u, rfl, (by first | exact c | (simp only [bC, wC, List.length_set, ← z]; exact c)), (d.mono (Nat.zero_le _)), (Mov.same _ _), (f.mono (Nat.zero_le _)), (Mov.same _ _), i⟩
 have aT := Row.re d.row n x (by first | exact s | omega | (simp at s ⊢; omega))
 refine ⟨_, (aT 0 _ rfl), ?_⟩
 refine Own.stA d n x s 0 (⟨(wrap .i64 ((rd e.Frames (wrap .i64 ((e.Frames.length : Int) - 1))).Pc + 1)), (rd e.Frames (wrap .i64 ((e.Frames.length : Int) - 1))).Stop, (rd e.Frames (wrap .i64 ((e.Frames.length : Int) - 1))).Mask⟩ : D.Frame) (fun b7 Q a5 b8 => ?_)
 have c := c.chg a5 (fun E => ((d.qa6 c.b (by decide))) _ n E.symm)
 have f := f.chg a5 (((Own.qaw f d (by decide))).left n)
 have i := i.chgb a5 (Or.inr (Or.inl ⟨_, n, rfl⟩))
 have d := Q
 cases X.trans H.symm
 exact ⟨q, v, p, u, rfl, (by first | exact c | (simp only [bC, wC, List.length_set, ← z]; exact c)), (d.mono (Nat.zero_le _)), (Mov.same _ _), (f.mono (Nat.zero_le _)), (Mov.same _ _), i⟩
def qbd.vc (b : Addr) (n : Int) (w : World) (K : VK) : Prop :=
  qdS (σ := Unit) (fun B a o => ldS a ((b.add 1).add 0) fun C p D => qa1 (decide (((p : Nat) : Int) > 0)) ((∃ c : Nat → Prop, ldSM c a (b.add 1) 0 fun q r E => ldSM c a (b.add 1) 0 fun F e G => (idx (wrap .i64 (((e : Nat) : Int) - 1)) r q fun g => ldIM c a (g.add (((wrap .i64 (((e : Nat) : Int) - 1)).toNat) * 3)) 0 fun s => ldIM c a (g.add (((wrap .i64 (((e : Nat) : Int) - 1)).toNat) * 3)) 1 fun t => ldIM c a (g.add (((wrap .i64 (((e : Nat) : Int) - 1)).toNat) * 3)) 2 fun u => newK a.drew (.cells #[(iv 0), (iv 0), (iv 0)] 91) fun f j => qaS c a j ∧ qae (bx f) [(iv s), (iv t), (iv u)] 0 j fun d => qgl (σ := Unit) (fun k => ldI d (((bx f).add 0).add 0) fun v => ldI d (((bx f).add 1).add 0) fun x => qa1 (v != x) (ldI d (((bx f).add 0).add 0) fun y => qa1 (y != n) (K (.tuple #[]) d) (k () d)) (k () d)) fun H h => (∃ l : Nat → Prop, ldSM l h (b.add 1) 0 fun z I m => ldSM l h (b.add 1) 0 fun J i L => ((0 : Int) ≤ (wrap .i64 (((i : Nat) : Int) - 1)) ∧ (wrap .i64 (((i : Nat) : Int) - 1)) ≤ ((m : Nat) : Int) ∧ qae (b.add 1) [(sv z ((wrap .i64 (((i : Nat) : Int) - 1)).toNat) m)] 0 h.drew fun A => o () A))))) (K (.tuple #[]) a)) () w

def qbd.ann : Ann := (.one (.loop [] (.seq (.seq .l (.two .l .l)) (.one (.seq .l (.cut [] (.seq .l (.two .l .l)) .l))))))

theorem qbd.con {i r : D.Warp} {l E t u : Nat} {n s : OA} {B : Array Value} {x : Int} {w : World} (U : M.qdh i x) (N : r = M.qbd i x) (c : Plc w l u 52 B (wC n E s t i)) (V : Own el91 w 0 n E i.Frames) (af : Row el3 w s i.Regs) (ag : i.Regs.length ≤ t) (ah : i.Regs ≠ [] → ∀ g, InB s g → ¬ (fun k => InB n k ∨ k = l) g) :
    Cl 132 #[(.pointer (some (⟨l, u, none⟩ : Addr))), (iv x)] w (fun W m => ∃ (F : OA) (O : Nat), W = (.tuple #[]) ∧ Plc m l u 52 B (wC F O s t r) ∧ Own el91 m 0 F O r.Frames ∧ Mov w n F ∧ r.Regs = i.Regs ∧ Chg (fun k => InB n k ∨ k = l) w m) := by
 have H := wp.qbd.math i x U
 have f := Chg.refl (fun k => InB n k ∨ k = l) w
 refine begK mixed Tryz.f132 ann (vc (⟨l, u, none⟩ : Addr) x) ?_
 unfold vc
 unfold wp.qbd at H
 obtain ⟨X, ⟨Y, Z⟩, P⟩ := H
 refine ⟨fun m_ G m => ∃ (v : Int) (d : List D.Frame) (p : OA) (q : Nat), G = (()) ∧ X m_ (v, d, ()) ∧ Chg (fun k => InB n k ∨ k = l) w m ∧ Plc m l u 52 B #[(iv v), (sv p d.length q), (sv s i.Regs.length t)] ∧ Own el91 m 0 p q d ∧ Mov w n p, ⟨Y, i.Number, i.Frames, n, E, rfl, Z, f, c, V, (Mov.same _ _)⟩, ?_⟩
 rintro a0 _ a1 ⟨v, d, p, q, rfl, Q, f, c, e, I⟩
 have H := P a0 _ Q
 clear P Q
 try dsimp only at H ⊢
 refine ⟨_, _, _, (c.a 1), ?_⟩
 apply brc H<;>intro h H
 ·refine ⟨(fun _ => False), _, _, _, noM (c.a 1), _, _, _, noM (c.a 1), ?_⟩
  obtain ⟨⟨R, S⟩, H⟩ := H
  obtain ⟨a2, a3, J⟩ := Row.at e.row R S
  refine ⟨R, S, a2, a3, _, ⟨(fun y => y), (J 0 _ rfl)⟩, _, ⟨(fun y => y), (J 1 _ rfl)⟩, _, ⟨(fun y => y), (J 2 _ rfl)⟩, ?_⟩
  have c := c.ext (Ext.drew _)
  have e := e.ext (Ext.drew _)
  have f := f.then (Ext.drew _)
  refine qbx (fun ai aj z P9 C => ?_)
  have a4 := c.ne z
  have a5 := e.qbI z
  have e := e.ext C
  have A := P9
  have z := Nat.le_trans f.size z
  have a6 := ((Chg.refl (fun _ => False) a1).then (Ext.drew _)).then C
  refine ⟨qaj a6, ?_⟩
  refine qd9 A (o := 0) (cs' := #[(iv ((rd d (wrap .i64 ((d.length : Int) - 1))).Pc)), (iv ((rd d (wrap .i64 ((d.length : Int) - 1))).Stop)), (iv ((rd d (wrap .i64 ((d.length : Int) - 1))).Mask))]) rfl rfl (Nat.le_of_ble_eq_true rfl) rfl (fun ak A K => ?_)
  have c := (c.ext C).chg K a4
  have a7 := e.chg K a5
  have e := a7
  have f := (f.then C).chgb K (Or.inl z)
  obtain ⟨a8, a9, H⟩ := qdJ H
  refine ⟨fun G m => G = (()) ∧ a8 (()) ∧ Chg (fun k => InB n k ∨ k = l) w m ∧ Plc m l u 52 B #[(iv v), (sv p d.length q), (sv s i.Regs.length t)] ∧ Own el91 m 0 p q d, ?_, ?_⟩
  ·refine ⟨_, (A.a 0), _, (A.a 1), ?_⟩
   apply brc H<;>intro h H
   ·refine ⟨_, (A.a 0), ?_⟩
    apply brc H<;>intro h H
    ·cases N.trans H.symm
     exact ⟨p, q, rfl, c, (e.mono (Nat.zero_le _)), I, rfl, f⟩
    exact ⟨rfl, H, f, c, e⟩
   exact ⟨rfl, H, f, c, e⟩
  rintro _ al ⟨rfl, H, f, c, e⟩
  have H := a9 _ H
  try dsimp only at H ⊢
  refine ⟨(fun _ => False), _, _, _, noM (c.a 1), _, _, _, noM (c.a 1), ?_⟩
  obtain ⟨⟨aa, ab⟩, H⟩ := H
  refine and_assoc.1 ⟨⟨aa, Int.le_trans ab (Int.ofNat_le.2 e.le)⟩, ?_⟩
  rw [show ((wrap .i64 ((d.length : Int) - 1)).toNat) = ((List.take ((wrap .i64 ((d.length : Int) - 1)).toNat) d)).length from by first | rfl | (simp; done) | (simp; omega)]
  have L := (e.take ((wrap .i64 ((d.length : Int) - 1)).toNat))
  have c := c.ext (Ext.drew _)
  have e := e.ext (Ext.drew _)
  refine qmH c (j := 1) (cs' := #[(iv v), (sv p (((List.take ((wrap .i64 ((d.length : Int) - 1)).toNat) d)).length) q), (sv s i.Regs.length t)]) rfl rfl (Nat.le_of_ble_eq_true rfl) rfl (fun am P1 T => ?_)
  have L := (L.ext (Ext.drew _)).chg T (e.qa6 c.b (by decide))
  have f := (f.then (Ext.drew _)).chgb T (Or.inr (Or.inr rfl))
  have c := P1
  obtain ⟨ac, ad, ae⟩ := H
  exact ⟨ac, ad, v, _, p, q, rfl, ae, f, c, L, I⟩
 cases N.trans H.symm
 exact ⟨p, q, rfl, c, (e.mono (Nat.zero_le _)), I, rfl, f⟩
def qaZ.vc (a : Addr) (f : OA) (c h : Nat) (w : World) (K : VK) : Prop :=
  (∃ b : Nat → Prop, ldSM b w (a.add 1) 0 fun O o P => qa1 (((o : Nat) : Int) == 0) (K (.bool false) w.drew) (ldSM b w (a.add 1) 0 fun p q Q => ldSM b w (a.add 1) 0 fun R i S => (idx (wrap .i64 (((i : Nat) : Int) - 1)) q p fun r => ldIM b w ((r.add (((wrap .i64 (((i : Nat) : Int) - 1)).toNat) * 3)).add 0) 0 fun e => (idx e c f fun g => ldIM b w (g.add ((e.toNat) * 4)) 0 fun s => ldIM b w (g.add ((e.toNat) * 4)) 1 fun t => ldIM b w (g.add ((e.toNat) * 4)) 2 fun u => ldIM b w (g.add ((e.toNat) * 4)) 3 fun v => Cl 121 #[(.agg #[(iv s), (iv t), (iv u), (iv v)])] w.drew fun x d => (∃ (j : Bool), x = (.bool j) ∧ qaS b w d ∧ qa1 (!j) (K (.bool false) d) (ldI d (a.add 0) fun y => ldS d (a.add 1) fun z A B => ldS d (a.add 2) fun C D E => Cl 122 #[(.agg #[(iv y), (sv z A B), (sv C D E)]), (sv f c h)] d fun F k => (∃ (l : Bool), F = (.bool l) ∧ qa1 l (Cl 171 #[(.pointer (some a)), (sv f c h)] k fun G m => (∃ (n : Bool), G = (.bool n) ∧ qa1 (!n) (K (.bool false) m) (Cl 132 #[(.pointer (some a)), (iv ((c : Nat) : Int))] m fun H I => (H = (.tuple #[]) ∧ K (.bool true) I)))) (Cl 172 #[(.pointer (some a)), (sv f c h)] k fun J L => (J = (.tuple #[]) ∧ Cl 132 #[(.pointer (some a)), (iv ((c : Nat) : Int))] L fun M N => (M = (.tuple #[]) ∧ K (.bool true) N))))))))))

def qaZ.ann : Ann := (.seq .l (.seq (.seq .l (.two (.seq .l .l) .l)) (.seq (.seq .l (.two (.seq .l (.two (.seq .l .l) .l)) .l)) (.seq .l (.seq .l .l)))))

theorem qaZ.con {t : D.Warp} {s z u A J : Nat} {m k B : OA} {R : Array Value} {q : List D.Ins} {r : Bool × D.Warp} {w : World} (hp : M.qeG t q) (x : r = M.qaZ t q) (e : Plc w s A 52 R (wC m z k u t)) (j : Own el91 w 0 m z t.Frames) (f : Own el3 w 0 k u t.Regs) (C : Row el84 w B q) (K : q.length ≤ J) (o : q ≠ [] → ∀ g, InB B g → ¬ (fun l => InB m l ∨ InB k l ∨ l = s) g) :
    Cl 130 #[(.pointer (some (⟨s, A, none⟩ : Addr))), (sv B q.length J)] w (fun v_ E => ∃ (L : OA) (S : Nat) (N : OA) (T : Nat), v_ = (.bool r.1) ∧ Plc E s A 52 R (wC L S N T r.2) ∧ Own el91 E 0 L S r.2.Frames ∧ Mov w m L ∧ Own el3 E 0 N T r.2.Regs ∧ Mov w k N ∧ Chg (fun l => InB m l ∨ InB k l ∨ l = s) w E) := by
 have H := wp.qaZ.math t q hp
 have i := Chg.refl (fun l => InB m l ∨ InB k l ∨ l = s) w
 refine begK mixed Tryz.f130 ann (vc (⟨s, A, none⟩ : Addr) B q.length J) ?_
 unfold vc
 unfold wp.qaZ at H
 refine ⟨(fun _ => False), _, _, _, noM (e.a 1), ?_⟩
 apply brc H<;>intro h H
 ·have e := e.ext (Ext.drew _)
  have j := j.ext (Ext.drew _)
  have f := f.ext (Ext.drew _)
  have i := i.then (Ext.drew _)
  cases x.trans H.symm
  exact ⟨m, z, k, u, rfl, e, (j.mono (Nat.zero_le _)), (Mov.same _ _), (f.mono (Nat.zero_le _)), (Mov.same _ _), i⟩
 refine ⟨_, _, _, noM (e.a 1), _, _, _, noM (e.a 1), ?_⟩
 obtain ⟨⟨U, V⟩, H⟩ := H
 obtain ⟨a2, a3, a4⟩ := Row.at j.row U V
 refine ⟨U, V, a2, a3, _, ⟨(fun c => c), (a4 0 _ rfl)⟩, ?_⟩
 obtain ⟨⟨W, X⟩, H⟩ := H
 obtain ⟨a5, a6, F⟩ := Row.at (C.chgS i o) W X
 refine ⟨W, X, a5, a6, _, ⟨(fun c => c), (F 0 _ rfl)⟩, _, ⟨(fun c => c), (F 1 _ rfl)⟩, _, ⟨(fun c => c), (F 2 _ rfl)⟩, _, ⟨(fun c => c), (F 3 _ rfl)⟩, ?_⟩
 have e := e.ext (Ext.drew _)
 have j := j.ext (Ext.drew _)
 have f := f.ext (Ext.drew _)
 have i := i.then (Ext.drew _)
 have O := (Chg.refl (fun _ => False) w).then (Ext.drew _)
 obtain ⟨a7, a8, H⟩ := qaf H
 refine (qbU.con a8 ).mono ?_
 rintro _ aH ⟨rfl, y⟩
 have e := e.ext y
 have j := j.ext y
 have f := f.ext y
 have i := i.then y
 have O := O.then y
 refine ⟨a7, rfl, qaj O, ?_⟩
 apply brc H<;>intro h H
 ·cases x.trans H.symm
  exact ⟨m, z, k, u, rfl, e, (j.mono (Nat.zero_le _)), (Mov.same _ _), (f.mono (Nat.zero_le _)), (Mov.same _ _), i⟩
 refine ⟨_, (e.a 0), _, _, _, (e.a 1), _, _, _, (e.a 2), ?_⟩
 obtain ⟨a9, H⟩ := H
 obtain ⟨aa, ab, H⟩ := qaf H
 refine (qaK.con a9 ab j.row j.le f.row f.le (C.chgS i o) K).mono ?_
 rintro _ aI ⟨rfl, G⟩
 have e := e.ext G
 have j := j.ext G
 have f := f.ext G
 have i := i.then G
 refine ⟨aa, rfl, ?_⟩
 apply brc H<;>intro h H
 ·obtain ⟨ac, H⟩ := H
  obtain ⟨ad, ae, H⟩ := qaf H
  refine (qaA.con ac ae e (j.mono (Nat.zero_le _)) f.row f.le (C.chgS i o) K (fun _ => (fun g c => (fun d => d.elim (((Own.qaw f j (by decide))).inb g c) ((qcG (f.qa6 e.b (by decide))) g c)))) (fun v => (fun g c => (fun d => d.elim ((fun g c d => o v g c (Or.inl d)) g c) ((fun g c d => o v g c (Or.inr (Or.inr d))) g c))))).mono ?_
  rintro _ aJ ⟨af, ag, rfl, n, Q5, ah, ai, Y⟩
  simp only [bC, wC, ai] at n
  have P := Mov.trans (Mov.same w m) ah i.size
  have f := f.chgS Y (fun g c => (fun d => d.elim (((Own.qaw f j (by decide))).inb g c) ((qcG (f.qa6 e.b (by decide))) g c)))
  have i := i.chg Y (fun g => (fun d => d.elim ((fun g c => (Or.inr (Or.inl c))) g) ((fun g c => Or.inr (Or.inr (Or.inr c))) g)))
  have e := n
  have I := Q5
  refine ⟨ad.1, rfl, ?_⟩
  apply brc H<;>intro h H
  ·cases x.trans H.symm
   exact ⟨af, ag, k, u, rfl, e, (I.mono (Nat.zero_le _)), P, (f.mono (Nat.zero_le _)), (Mov.same _ _), i⟩
  obtain ⟨aj, H⟩ := H
  obtain ⟨aK, ak, H⟩ := qaf H
  refine (qbd.con aj ak e (I.mono (Nat.zero_le _)) f.row f.le (fun _ => (fun g c => (fun d => d.elim (((Own.qaw f I (by decide))).inb g c) ((qcG (f.qa6 e.b (by decide))) g c))))).mono ?_
  rintro _ aL ⟨al, am, rfl, n, Q6, an, ao, Z⟩
  simp only [bC, wC, ao] at n
  have ap := Mov.trans P an i.size
  have f := f.chgS Z (fun g c => (fun d => d.elim (((Own.qaw f I (by decide))).inb g c) ((qcG (f.qa6 e.b (by decide))) g c)))
  have i := i.chg Z (fun g => (fun d => d.elim ((fun g c => (qfO P c (fun c => (Or.inl c)))) g) ((fun g c => Or.inr (Or.inr (Or.inr c))) g)))
  have e := n
  have O6 := Q6
  refine ⟨rfl, ?_⟩
  cases x.trans H.symm
  exact ⟨al, am, k, u, rfl, e, (O6.mono (Nat.zero_le _)), ap, (f.mono (Nat.zero_le _)), (Mov.same _ _), i⟩
 obtain ⟨aq, H⟩ := H
 obtain ⟨aM, ar, H⟩ := qaf H
 refine (qaV.con aq ar e (j.mono (Nat.zero_le _)) (f.mono (Nat.zero_le _)) (C.chgS i o) K (fun v => (fun g c => (fun d => d.elim ((fun g c d => o v g c (Or.inl d)) g c) (fun d => d.elim ((fun g c d => o v g c (Or.inr (Or.inl d))) g c) ((fun g c d => o v g c (Or.inr (Or.inr d))) g c)))))).mono ?_
 rintro _ aN ⟨aO, aP, au, av, rfl, n, Q7, aw, Q8, ax, ay⟩
 have a0 := Mov.trans (Mov.same w m) aw i.size
 have az := Mov.trans (Mov.same w k) ax i.size
 have i := i.chg ay (fun g => (fun d => d.elim ((fun g c => (Or.inr (Or.inl c))) g) (fun d => d.elim ((fun g c => (Or.inr (Or.inr (Or.inl c)))) g) ((fun g c => Or.inr (Or.inr (Or.inr c))) g))))
 have e := n
 have Q := Q7
 have p := Q8
 refine ⟨rfl, ?_⟩
 obtain ⟨aA, H⟩ := H
 obtain ⟨aQ, aB, H⟩ := qaf H
 refine (qbd.con aA aB e (Q.mono (Nat.zero_le _)) p.row p.le (fun _ => (fun g c => (fun d => d.elim (((Own.qaw p Q (by decide))).inb g c) ((qcG (p.qa6 e.b (by decide))) g c))))).mono ?_
 rintro _ aR ⟨aC, aD, rfl, n, Q9, aE, aF, a1⟩
 simp only [bC, wC, aF] at n
 have aG := Mov.trans a0 aE i.size
 have p := p.chgS a1 (fun g c => (fun d => d.elim (((Own.qaw p Q (by decide))).inb g c) ((qcG (p.qa6 e.b (by decide))) g c)))
 have i := i.chg a1 (fun g => (fun d => d.elim ((fun g c => (qfO a0 c (fun c => (Or.inl c)))) g) ((fun g c => Or.inr (Or.inr (Or.inr c))) g)))
 have e := n
 have O9 := Q9
 refine ⟨rfl, ?_⟩
 cases x.trans H.symm
 exact ⟨aC, aD, au, av, rfl, e, (O9.mono (Nat.zero_le _)), aG, (p.mono (Nat.zero_le _)), az, i⟩
def qcF.vc (b : Addr) (c : Int) (w : World) (K : VK) : Prop :=
  Cl 67 #[(.pointer (some b)), (iv c)] w fun d e => (∃ (a : Int), d = (iv a) ∧ K (.bool (a == 0)) e)

def qcF.ann : Ann := (.seq .l (.seq .l .l))

theorem qcF.con {a : D.Cur} {c k : Nat} {f : OA} {d : Int} {r : Bool × D.Cur} {w : World} (q : M.qff a d) (s : r = M.qcF a d) (l : Blk w c 129 #[(sv f a.b.length k), (iv a.i), (iv a.h)]) (t : Row el5 w f a.b) (u : a.b.length ≤ k) (n : a.b ≠ [] → ∀ g, InB f g → ¬ (fun e => e = c) g) :
    Cl 116 #[(.pointer (some (bx c))), (iv d)] w (fun v o => v = (.bool r.1) ∧ Blk o c 129 #[(sv f r.2.b.length k), (iv r.2.i), (iv r.2.h)] ∧ r.2.b = a.b ∧ Chg (fun e => e = c) w o) := by
 have H := wp.qcF.math a d q
 have j := Chg.refl (fun e => e = c) w
 refine begK mixed Tryz.f116 ann (vc (bx c) d) ?_
 unfold vc
 unfold wp.qcF at H
 obtain ⟨x, H⟩ := H
 obtain ⟨y, z, H⟩ := qaf H
 refine (qa0.con x z l (t.chgS j n) u (fun A => (fun g m B => n A g m B))).mono ?_
 rintro _ F ⟨rfl, p, C, E⟩
 simp only [bC, wC, C] at p
 have j := j.chg E (fun g m => Or.inr m)
 have l := p
 refine ⟨y.1, rfl, ?_⟩
 cases s.trans H.symm
 exact ⟨rfl, l, rfl, j⟩
def qaJ.vc (b : Addr) (A1 : OA) (n1 c1 : Nat) (g : Int) (w : World) (K : VK) : Prop :=
  Cl 67 #[(.pointer (some b)), (iv 4)] w fun ad ae => (∃ (r : Int), ad = (iv r) ∧ qdS (σ := (OA × Nat × Nat) × Int × Unit) (fun a l c => qa1 (decide (a.2.1 > 0)) (qa1 (decide (((a.1.2.1 : Nat) : Int) < 20)) (Cl 67 #[(.pointer (some b)), (iv 5)] l fun af e => (∃ (m : Int), af = (iv m) ∧ qa1 (m == 0) (qa1 (g == 0) (c ((a.1.1, a.1.2.1, a.1.2.2), (wrap .i64 (a.2.1 - 1)), ()) e) (Cl 67 #[(.pointer (some b)), (iv 4)] e fun ag ah => (∃ (s : Int), ag = (iv s) ∧ Run Tryz.prog (Instr.buildSlice 30 1 #[(0, (.agg #[(iv 10), (iv s), (iv 0), (iv 0)]))]) ah fun ai aj => ∃ (t : OA) (u v : Nat), ai = .slice t u v ∧ Run Tryz.prog (Builtin.append_ #[30, 30] 30 #[(sv a.1.1 a.1.2.1 a.1.2.2), (sv t u v)]) aj fun ak al => ∃ (x : OA) (y z : Nat), ak = .slice x y z ∧ Cl 141 #[(.pointer (some b)), (sv x y z), (iv (wrap .i64 (g - 1)))] al fun am an => (∃ (h : OA) (d n : Nat), am = (sv h d n) ∧ Cl 116 #[(.pointer (some b)), (iv 2)] an fun ao A => (∃ (B : Bool), ao = (.bool B) ∧ qa1 B ((idx ((a.1.2.1 : Nat) : Int) d h fun ap => qae ((ap.add ((((a.1.2.1 : Nat) : Int).toNat) * 4)).add 2) [(iv ((d : Nat) : Int))] 0 A fun aq => c ((h, d, n), (wrap .i64 (a.2.1 - 1)), ()) aq)) (Run Tryz.prog (Instr.buildSlice 30 1 #[(0, (.agg #[(iv 11), (iv 0), (iv 0), (iv 0)]))]) A fun ar au => ∃ (C : OA) (D E : Nat), ar = .slice C D E ∧ Run Tryz.prog (Builtin.append_ #[30, 30] 30 #[(sv h d n), (sv C D E)]) au fun av aw => ∃ (o : OA) (i F : Nat), av = .slice o i F ∧ (idx ((a.1.2.1 : Nat) : Int) i o fun ax => qae ((ax.add ((((a.1.2.1 : Nat) : Int).toNat) * 4)).add 2) [(iv ((i : Nat) : Int))] 0 aw fun ay => Cl 141 #[(.pointer (some b)), (sv o i F), (iv (wrap .i64 (g - 1)))] ay fun az aA => (∃ (p : OA) (j G : Nat), az = (sv p j G) ∧ (idx ((d : Nat) : Int) j p fun aB => qae ((aB.add ((((d : Nat) : Int).toNat) * 4)).add 2) [(iv ((j : Nat) : Int))] 0 aA fun aC => c ((p, j, G), (wrap .i64 (a.2.1 - 1)), ()) aC))))))))) (qa1 (m == 1) (qa1 (g == 0) (c ((a.1.1, a.1.2.1, a.1.2.2), (wrap .i64 (a.2.1 - 1)), ()) e) (qa1 (decide (((a.1.2.1 : Nat) : Int) > 14)) (c ((a.1.1, a.1.2.1, a.1.2.2), (wrap .i64 (a.2.1 - 1)), ()) e) (Run Tryz.prog (Instr.buildSlice 30 1 #[(0, (.agg #[(iv 8), (iv 3), (iv 0), (iv 0)]))]) e fun aD aE => ∃ (H : OA) (I J : Nat), aD = .slice H I J ∧ Run Tryz.prog (Builtin.append_ #[30, 30] 30 #[(sv a.1.1 a.1.2.1 a.1.2.2), (sv H I J)]) aE fun aF aG => ∃ (L : OA) (f M : Nat), aF = .slice L f M ∧ Run Tryz.prog (Instr.buildSlice 30 1 #[(0, (.agg #[(iv 10), (iv 3), (iv 0), (iv 0)]))]) aG fun aH aI => ∃ (N : OA) (O P : Nat), aH = .slice N O P ∧ Run Tryz.prog (Builtin.append_ #[30, 30] 30 #[(sv L f M), (sv N O P)]) aI fun aJ aK => ∃ (Q : OA) (R S : Nat), aJ = .slice Q R S ∧ Run Tryz.prog (Instr.buildSlice 30 3 #[(0, (.agg #[(iv 3), (iv 0), (iv 0), (iv 1)])), (1, (.agg #[(iv 1), (iv 2), (iv 1), (iv 0)])), (2, (.agg #[(iv 4), (iv 3), (iv 3), (iv 2)]))]) aK fun aL aM => ∃ (T : OA) (U V : Nat), aL = .slice T U V ∧ Run Tryz.prog (Builtin.append_ #[30, 30] 30 #[(sv Q R S), (sv T U V)]) aM fun aN aO => ∃ (W : OA) (X Y : Nat), aN = .slice W X Y ∧ Run Tryz.prog (Instr.buildSlice 30 1 #[(0, (.agg #[(iv 11), (iv 0), (iv ((f : Nat) : Int)), (iv 0)]))]) aO fun aP aQ => ∃ (Z : OA) (a0 a1 : Nat), aP = .slice Z a0 a1 ∧ Run Tryz.prog (Builtin.append_ #[30, 30] 30 #[(sv W X Y), (sv Z a0 a1)]) aQ fun aR aS => ∃ (q : OA) (k a2 : Nat), aR = .slice q k a2 ∧ (idx ((f : Nat) : Int) k q fun aT => qae ((aT.add ((((f : Nat) : Int).toNat) * 4)).add 2) [(iv ((k : Nat) : Int))] 0 aS fun aU => c ((q, k, a2), (wrap .i64 (a.2.1 - 1)), ()) aU)))) (Cl 143 #[(.pointer (some b))] e fun aV aW => (∃ (a3 : Int), True ∧ ∃ (a4 : Int), True ∧ ∃ (a5 : Int), True ∧ ∃ (a6 : Int), True ∧ aV = (.agg #[(iv a3), (iv a4), (iv a5), (iv a6)]) ∧ Run Tryz.prog (Instr.buildSlice 30 1 #[(0, (.agg #[(iv a3), (iv a4), (iv a5), (iv a6)]))]) aW fun aX aY => ∃ (a7 : OA) (a8 a9 : Nat), aX = .slice a7 a8 a9 ∧ Run Tryz.prog (Builtin.append_ #[30, 30] 30 #[(sv a.1.1 a.1.2.1 a.1.2.2), (sv a7 a8 a9)]) aY fun aZ b0 => ∃ (aa : OA) (ab ac : Nat), aZ = .slice aa ab ac ∧ c ((aa, ab, ac), (wrap .i64 (a.2.1 - 1)), ()) b0))))) (K (sv a.1.1 a.1.2.1 a.1.2.2) l)) (K (sv a.1.1 a.1.2.1 a.1.2.2) l)) ((A1, n1, c1), r, ()) ae)

def qaJ.ann : Ann := (.seq .l (.seq (.seq .l (.one (.loop [(1, .sl), (7, .int .i64)] (.seq (.seq .l (.two .l .l)) (.seq (.one (.seq .l (.one (.seq .l (.two (.seq (.seq .l (.two .l .l)) (.seq .l (.seq .l (.seq .l (.seq .l (.seq (.seq .l (.two (.seq .l .l) .l)) (.seq .l (.seq .l (.seq .l (.seq .l .l)))))))))) (.seq .l (.two (.seq (.seq .l (.two .l .l)) (.seq .l (.seq .l (.seq .l (.seq .l (.seq .l .l)))))) .l))))))) .l))))) (.seq .l .l)))

theorem qaJ.con_ (n_ : Nat) : ∀ {u : D.Cur} {F : Nat} {W : OA} {a5 : Nat} {N : List D.Ins} {x : OA} {c1 : Nat} {R : Int} {r : (List D.Ins) × D.Cur} {w : World} (hp : M.qcS u N R) (hr : r = M.qaJ u N R) (c : Blk w F 129 #[(sv W u.b.length a5), (iv u.i), (iv u.h)]) (G : Row el5 w W u.b) (O : u.b.length ≤ a5) (O3 : Own el84 w 0 x c1 N) (n : u.b ≠ [] → ∀ g, InB W g → ¬ (fun y => y = F ∨ InB x y) g), (R).toNat = n_ →
    Cl 141 #[(.pointer (some (bx F))), (sv x N.length c1), (iv R)] w (fun v_ S => ∃ (ag : OA) (aI : Nat), v_ = (sv ag r.1.length aI) ∧ Own el84 S 0 ag aI r.1 ∧ Mov w x ag ∧ Blk S F 129 #[(sv W r.2.b.length a5), (iv r.2.i), (iv r.2.h)] ∧ r.2.b = u.b ∧ Chg (fun y => y = F ∨ InB x y) w S) := by
  induction n_ using Nat.strongRecOn with
  | ind n_ aJ =>
  intro u F W a5 N x c1 R r w hp hr c G O O3 n aK
  have H := wp.qaJ.math u N R hp
  have d := Chg.refl (fun y => y = F ∨ InB x y) w
  refine qnS mixed (fn := Tryz.f141) (by kernel_rfl) (by kernel_rfl) (an := qaJ.ann) (V := qaJ.vc (bx F) x N.length c1 R) (by kernel_rfl) ?_
  unfold qaJ.vc
  unfold wp.qaJ at H
  obtain ⟨b9, H⟩ := H
  obtain ⟨a6, ba, H⟩ := qaf H
  refine (qa0.con b9 ba c (G.chgS d n) O (fun o => (fun g a j => n o g a (Or.inl j)))).mono ?_
  rintro _ cx ⟨rfl, l, bb, aL⟩
  simp only [bC, wC, bb] at l
  have O3 := O3.chgS aL (qcG (O3.qa6 c (by decide)))
  have d := d.chg aL (fun g a => Or.inr (Or.inl a))
  have c := l
  refine ⟨a6.1, rfl, ?_⟩
  obtain ⟨bc, ⟨bd, be⟩, aM⟩ := H
  refine ⟨fun m_ z_ S => ∃ (f : List D.Ins) (I ah ai : Int) (J : OA) (P : Nat), z_ = ((J, f.length, P), I, ()) ∧ bc m_ (f, I, ah, ai, ()) ∧ Chg (fun y => y = F ∨ InB x y) w S ∧ Own el84 S 0 J P f ∧ Mov w x J ∧ Blk S F 129 #[(sv W u.b.length a5), (iv ah), (iv ai)], ⟨bd, N, a6.1, a6.2.i, a6.2.h, x, c1, rfl, be, d, O3, (Mov.same _ _), c⟩, ?_⟩
  rintro bf _ cy ⟨f, I, ah, ai, J, P, rfl, aN, d, e, z, c⟩
  have H := aM bf _ aN
  clear aM aN
  try dsimp only at H ⊢
  refine brc H (fun bg H => ?_) (fun bg H => ?_)
  ·refine brc H (fun bh H => ?_) (fun bh H => ?_)
   ·obtain ⟨bi, H⟩ := H
    obtain ⟨K, bj, H⟩ := qaf H
    refine (qa0.con bi bj c (G.chgS d n) O (fun o => (fun g a j => n o g a (Or.inl j)))).mono ?_
    rintro _ cz ⟨rfl, l, bk, aO⟩
    simp only [bC, wC, bk] at l
    have e := e.chgS aO (qcG (e.qa6 c (by decide)))
    have d := d.chg aO (fun g a => Or.inr (Or.inl a))
    have c := l
    refine ⟨K.1, rfl, ?_⟩
    refine brc H (fun bl H => ?_) (fun bl H => ?_)
    ·refine brc H (fun bm H => ?_) (fun bm H => ?_)
     ·obtain ⟨bn, bo, bp⟩ := H
      exact ⟨bn, bo, f, (wrap .i64 (I - 1)), K.2.i, K.2.h, J, P, rfl, bp, d, e, z, c⟩
     obtain ⟨bq, H⟩ := H
     obtain ⟨aP, br, H⟩ := qaf H
     refine (qa0.con bq br c (G.chgS d n) O (fun o => (fun g a j => n o g a (Or.inl j)))).mono ?_
     rintro _ cA ⟨rfl, l, bs, aQ⟩
     simp only [bC, wC, bs] at l
     have e := e.chgS aQ (qcG (e.qa6 c (by decide)))
     have d := d.chg aQ (fun g a => Or.inr (Or.inl a))
     have c := l
     refine ⟨aP.1, rfl, ?_⟩
     refine qaY el84 ([(⟨10, aP.1, 0, 0⟩ : D.Ins)] : List D.Ins) (fun _ => by kernel_rfl) rfl (fun cB cC P6 aj => ?_)
     have cD := P6.qaI c.lt
     have aR := Own.qdL e P6 (Nat.le_refl _)
     have c := c.ext aj
     have e := e.ext aj
     have O6 := P6.mono d.size
     have d := d.then aj
     obtain ⟨bt, H⟩ := H
     refine qfF qfI qfI.under e O6.row (Nat.zero_le _) rfl (by first | rfl | omega | (simp; done) | (simp; omega)) bt (fun cE cF cG q X => ?_)
     have E := Apart.app (e.qa6 c (by decide)) X c.lt
     have c := c.app X (e.qa6 c (by decide))
     have bu := qd4.app (aR).symm X O6
     have O6 := O6.app X (aR).symm
     have v := E
     have cH := bu
     have s := d.size
     have d := d.app X (fun g a => (qfO z a (fun a => (Or.inr a))))
     have e := q
     have p := Mov.trans z X.blk s
     obtain ⟨bv, H⟩ := H
     obtain ⟨k, bw, H⟩ := qaf H
     refine (aJ _ (by rw [← aK]; exact qaJ.dec hp (by assumption)) bv bw c (G.chgS d n) O (e.mono (Nat.zero_le _)) (fun o => (fun g a => (fun j => j.elim ((fun g a j => n o g a (Or.inl j)) g a) ((fun g a j => (qfO p j (fun a => (Or.inr a))).elim (fun ak => Nat.not_le.2 (G.old o g a) ak) (n o g a)) g a)))) rfl).mono ?_
     rintro _ cI ⟨aS, aT, rfl, T, bz, l, bA, bB⟩
     simp only [bC, wC, bA] at l
     have L := Mov.trans p bz d.size
     have d := d.chg bB (fun g => (fun j => j.elim ((fun g a => Or.inr (Or.inl a)) g) ((fun g a => (qfO p a (fun a => (Or.inr a)))) g)))
     have c := l
     have m := T
     refine ⟨aS, k.1.length, aT, rfl, ?_⟩
     obtain ⟨bD, H⟩ := H
     obtain ⟨al, bE, H⟩ := qaf H
     refine (qcF.con bD bE c (G.chgS d n) O (fun o => (fun g a j => n o g a (Or.inl j)))).mono ?_
     rintro _ cJ ⟨rfl, l, bF, aU⟩
     simp only [bC, wC, bF] at l
     have m := m.chgS aU (qcG (m.qa6 c (by decide)))
     have d := d.chg aU (fun g a => Or.inr (Or.inl a))
     have c := l
     refine ⟨al.1, rfl, ?_⟩
     refine brc H (fun bG H => ?_) (fun bG H => ?_)
     ·obtain ⟨⟨am, ao⟩, H⟩ := H
      obtain ⟨bH, a7, cK⟩ := Row.at m.row am ao
      refine ⟨am, ao, bH, a7, ?_⟩
      refine Own.storeAt m a7 am ao 2 [(iv (k.1.length : Int))] (⟨(rd k.1 (f.length : Int)).Op, (rd k.1 (f.length : Int)).A, (k.1.length : Int), (rd k.1 (f.length : Int)).C⟩ : D.Ins) rfl (Nat.le_of_ble_eq_true rfl) rfl (fun cL T aV cM => ?_)
      have U := c.chg aV (fun a => ((m.qa6 c (by decide))) _ a7 a.symm)
      have c := U
      have d := d.chgb aV (qfO L ⟨_, a7, rfl⟩ (fun a => (Or.inr a)))
      have m := T
      obtain ⟨bI, bJ, bK⟩ := H
      exact ⟨bI, bJ, (List.set k.1 ((f.length : Int).toNat) (⟨(rd k.1 (f.length : Int)).Op, (rd k.1 (f.length : Int)).A, (k.1.length : Int), (rd k.1 (f.length : Int)).C⟩ : D.Ins)), (wrap .i64 (I - 1)), al.2.i, al.2.h, aS, aT, (by first | rfl | (simp only [bC, wC, List.length_set])), bK, d, (by first | exact m | (simp only [bC, wC, List.length_set]; exact m)), L, (by first | exact c | (simp only [bC, wC, List.length_set]; exact c))⟩
     refine qaY el84 ([(⟨11, 0, 0, 0⟩ : D.Ins)] : List D.Ins) (fun _ => by kernel_rfl) rfl (fun cN cO P8 ap => ?_)
     have cP := P8.qaI c.lt
     have aW := Own.qdL m P8 (Nat.le_refl _)
     have c := c.ext ap
     have m := m.ext ap
     have O8 := P8.mono d.size
     have d := d.then ap
     obtain ⟨bL, H⟩ := H
     refine qfF qfI qfI.under m O8.row (Nat.zero_le _) rfl (by first | rfl | omega | (simp; done) | (simp; omega)) bL (fun cQ cR cS T Y => ?_)
     have bM := Apart.app (m.qa6 c (by decide)) Y c.lt
     have c := c.app Y (m.qa6 c (by decide))
     have bN := qd4.app (aW).symm Y O8
     have O8 := O8.app Y (aW).symm
     have bO := bM
     have cT := bN
     have s := d.size
     have d := d.app Y (fun g a => (qfO L a (fun a => (Or.inr a))))
     have m := T
     have L := Mov.trans L Y.blk s
     obtain ⟨⟨aq, ar⟩, H⟩ := H
     obtain ⟨bP, a8, cU⟩ := Row.at m.row aq ar
     refine ⟨aq, ar, bP, a8, ?_⟩
     refine Own.storeAt m a8 aq ar 2 [(iv (((k.1 ++ ([(⟨11, 0, 0, 0⟩ : D.Ins)] : List D.Ins))).length : Int))] (⟨(rd (k.1 ++ ([(⟨11, 0, 0, 0⟩ : D.Ins)] : List D.Ins)) (f.length : Int)).Op, (rd (k.1 ++ ([(⟨11, 0, 0, 0⟩ : D.Ins)] : List D.Ins)) (f.length : Int)).A, (((k.1 ++ ([(⟨11, 0, 0, 0⟩ : D.Ins)] : List D.Ins))).length : Int), (rd (k.1 ++ ([(⟨11, 0, 0, 0⟩ : D.Ins)] : List D.Ins)) (f.length : Int)).C⟩ : D.Ins) rfl (Nat.le_of_ble_eq_true rfl) rfl (fun cV T aX cW => ?_)
     have U := c.chg aX (fun a => (bO) _ a8 a.symm)
     have c := U
     have d := d.chgb aX (qfO L ⟨_, a8, rfl⟩ (fun a => (Or.inr a)))
     have m := T
     obtain ⟨bQ, H⟩ := H
     obtain ⟨t, bR, H⟩ := qaf H
     refine (qho (by first | (simp only [bC, wC, List.length_set]; done) | (simp; done)) (aJ _ (by rw [← aK]; exact qaJ.dec hp (by assumption)) bQ bR c (G.chgS d n) O (m.mono (Nat.zero_le _)) (fun o => (fun g a => (fun j => j.elim ((fun g a j => n o g a (Or.inl j)) g a) ((fun g a j => (qfO L j (fun a => (Or.inr a))).elim (fun ak => Nat.not_le.2 (G.old o g a) ak) (n o g a)) g a)))) rfl)).mono ?_
     rintro _ cX ⟨aY, aZ, rfl, P9, bS, l, bT, bU⟩
     simp only [bC, wC, bT] at l
     have b0 := Mov.trans L bS d.size
     have d := d.chg bU (fun g => (fun j => j.elim ((fun g a => Or.inr (Or.inl a)) g) ((fun g a => (qfO L a (fun a => (Or.inr a)))) g)))
     have c := l
     have Z := P9
     refine ⟨aY, t.1.length, aZ, rfl, ?_⟩
     obtain ⟨⟨au, av⟩, H⟩ := H
     obtain ⟨bV, a9, cY⟩ := Row.at Z.row au av
     refine ⟨au, av, bV, a9, ?_⟩
     refine Own.storeAt Z a9 au av 2 [(iv (t.1.length : Int))] (⟨(rd t.1 (k.1.length : Int)).Op, (rd t.1 (k.1.length : Int)).A, (t.1.length : Int), (rd t.1 (k.1.length : Int)).C⟩ : D.Ins) rfl (Nat.le_of_ble_eq_true rfl) rfl (fun cZ P9 b1 d0 => ?_)
     have U := c.chg b1 (fun a => ((Z.qa6 c (by decide))) _ a9 a.symm)
     have c := U
     have d := d.chgb b1 (qfO b0 ⟨_, a9, rfl⟩ (fun a => (Or.inr a)))
     have Z := P9
     obtain ⟨bW, bX, bY⟩ := H
     exact ⟨bW, bX, (List.set t.1 ((k.1.length : Int).toNat) (⟨(rd t.1 (k.1.length : Int)).Op, (rd t.1 (k.1.length : Int)).A, (t.1.length : Int), (rd t.1 (k.1.length : Int)).C⟩ : D.Ins)), (wrap .i64 (I - 1)), t.2.i, t.2.h, aY, aZ, (by first | rfl | (simp only [bC, wC, List.length_set])), bY, d, (by first | exact Z | (simp only [bC, wC, List.length_set]; exact Z)), b0, (by first | exact c | (simp only [bC, wC, List.length_set]; exact c))⟩
    refine brc H (fun bZ H => ?_) (fun bZ H => ?_)
    ·refine brc H (fun c0 H => ?_) (fun c0 H => ?_)
     ·obtain ⟨c2, c3, c4⟩ := H
      exact ⟨c2, c3, f, (wrap .i64 (I - 1)), K.2.i, K.2.h, J, P, rfl, c4, d, e, z, c⟩
     refine brc H (fun c5 H => ?_) (fun c5 H => ?_)
     ·obtain ⟨c6, c7, c8⟩ := H
      exact ⟨c6, c7, f, (wrap .i64 (I - 1)), K.2.i, K.2.h, J, P, rfl, c8, d, e, z, c⟩
     refine qaY el84 ([(⟨8, 3, 0, 0⟩ : D.Ins)] : List D.Ins) (fun _ => by kernel_rfl) rfl (fun d1 d2 aw ax => ?_)
     have d3 := aw.qaI c.lt
     have b2 := Own.qdL e aw (Nat.le_refl _)
     have c := c.ext ax
     have e := e.ext ax
     have aa := aw.mono d.size
     have d := d.then ax
     obtain ⟨c9, H⟩ := H
     refine qfF qfI qfI.under e aa.row (Nat.zero_le _) rfl (by first | rfl | omega | (simp; done) | (simp; omega)) c9 (fun d4 d5 d6 q a0 => ?_)
     have E := Apart.app (e.qa6 c (by decide)) a0 c.lt
     have c := c.app a0 (e.qa6 c (by decide))
     have ca := qd4.app (b2).symm a0 aa
     have aa := aa.app a0 (b2).symm
     have v := E
     have d7 := ca
     have s := d.size
     have d := d.app a0 (fun g a => (qfO z a (fun a => (Or.inr a))))
     have e := q
     have p := Mov.trans z a0.blk s
     refine qaY el84 ([(⟨10, 3, 0, 0⟩ : D.Ins)] : List D.Ins) (fun _ => by kernel_rfl) rfl (fun d8 d9 ay az => ?_)
     have da := ay.qaI c.lt
     have b3 := Own.qdL e ay (Nat.le_refl _)
     have c := c.ext az
     have e := e.ext az
     have ab := ay.mono d.size
     have d := d.then az
     obtain ⟨cb, H⟩ := H
     refine qfF qfI qfI.under e ab.row (Nat.zero_le _) rfl (by first | rfl | omega | (simp; done) | (simp; omega)) cb (fun db dc dd q a1 => ?_)
     have E := Apart.app v a1 c.lt
     have c := c.app a1 v
     have cc := qd4.app (b3).symm a1 ab
     have ab := ab.app a1 (b3).symm
     have v := E
     have de := cc
     have s := d.size
     have d := d.app a1 (fun g a => (qfO p a (fun a => (Or.inr a))))
     have e := q
     have p := Mov.trans p a1.blk s
     refine qaY el84 ([(⟨3, 0, 0, 1⟩ : D.Ins), (⟨1, 2, 1, 0⟩ : D.Ins), (⟨4, 3, 3, 2⟩ : D.Ins)] : List D.Ins) (fun _ => by kernel_rfl) rfl (fun df dg aA aB => ?_)
     have dh := aA.qaI c.lt
     have b4 := Own.qdL e aA (Nat.le_refl _)
     have c := c.ext aB
     have e := e.ext aB
     have ac := aA.mono d.size
     have d := d.then aB
     obtain ⟨cd, H⟩ := H
     refine qfF qfI qfI.under e ac.row (Nat.zero_le _) rfl (by first | rfl | omega | (simp; done) | (simp; omega)) cd (fun di dj dk q a2 => ?_)
     have E := Apart.app v a2 c.lt
     have c := c.app a2 v
     have ce := qd4.app (b4).symm a2 ac
     have ac := ac.app a2 (b4).symm
     have v := E
     have dl := ce
     have s := d.size
     have d := d.app a2 (fun g a => (qfO p a (fun a => (Or.inr a))))
     have e := q
     have p := Mov.trans p a2.blk s
     refine qaY el84 ([(⟨11, 0, (((f ++ ([(⟨8, 3, 0, 0⟩ : D.Ins)] : List D.Ins))).length : Int), 0⟩ : D.Ins)] : List D.Ins) (fun _ => by kernel_rfl) rfl (fun dm dn aC aD => ?_)
     have dp := aC.qaI c.lt
     have b5 := Own.qdL e aC (Nat.le_refl _)
     have c := c.ext aD
     have e := e.ext aD
     have ad := aC.mono d.size
     have d := d.then aD
     obtain ⟨cf, H⟩ := H
     refine qfF qfI qfI.under e ad.row (Nat.zero_le _) rfl (by first | rfl | omega | (simp; done) | (simp; omega)) cf (fun cg ch dq q a3 => ?_)
     have E := Apart.app v a3 c.lt
     have c := c.app a3 v
     have ci := qd4.app (b5).symm a3 ad
     have ad := ad.app a3 (b5).symm
     have v := E
     have dr := ci
     have s := d.size
     have d := d.app a3 (fun g a => (qfO p a (fun a => (Or.inr a))))
     have e := q
     have p := Mov.trans p a3.blk s
     obtain ⟨⟨aE, aF⟩, H⟩ := H
     obtain ⟨cj, ae, ds⟩ := Row.at e.row aE aF
     refine ⟨aE, aF, cj, ae, ?_⟩
     refine Own.storeAt e ae aE aF 2 [(iv ((((((f ++ ([(⟨8, 3, 0, 0⟩ : D.Ins)] : List D.Ins)) ++ ([(⟨10, 3, 0, 0⟩ : D.Ins)] : List D.Ins)) ++ ([(⟨3, 0, 0, 1⟩ : D.Ins), (⟨1, 2, 1, 0⟩ : D.Ins), (⟨4, 3, 3, 2⟩ : D.Ins)] : List D.Ins)) ++ ([(⟨11, 0, (((f ++ ([(⟨8, 3, 0, 0⟩ : D.Ins)] : List D.Ins))).length : Int), 0⟩ : D.Ins)] : List D.Ins))).length : Int))] (⟨(rd ((((f ++ ([(⟨8, 3, 0, 0⟩ : D.Ins)] : List D.Ins)) ++ ([(⟨10, 3, 0, 0⟩ : D.Ins)] : List D.Ins)) ++ ([(⟨3, 0, 0, 1⟩ : D.Ins), (⟨1, 2, 1, 0⟩ : D.Ins), (⟨4, 3, 3, 2⟩ : D.Ins)] : List D.Ins)) ++ ([(⟨11, 0, (((f ++ ([(⟨8, 3, 0, 0⟩ : D.Ins)] : List D.Ins))).length : Int), 0⟩ : D.Ins)] : List D.Ins)) (((f ++ ([(⟨8, 3, 0, 0⟩ : D.Ins)] : List D.Ins))).length : Int)).Op, (rd ((((f ++ ([(⟨8, 3, 0, 0⟩ : D.Ins)] : List D.Ins)) ++ ([(⟨10, 3, 0, 0⟩ : D.Ins)] : List D.Ins)) ++ ([(⟨3, 0, 0, 1⟩ : D.Ins), (⟨1, 2, 1, 0⟩ : D.Ins), (⟨4, 3, 3, 2⟩ : D.Ins)] : List D.Ins)) ++ ([(⟨11, 0, (((f ++ ([(⟨8, 3, 0, 0⟩ : D.Ins)] : List D.Ins))).length : Int), 0⟩ : D.Ins)] : List D.Ins)) (((f ++ ([(⟨8, 3, 0, 0⟩ : D.Ins)] : List D.Ins))).length : Int)).A, ((((((f ++ ([(⟨8, 3, 0, 0⟩ : D.Ins)] : List D.Ins)) ++ ([(⟨10, 3, 0, 0⟩ : D.Ins)] : List D.Ins)) ++ ([(⟨3, 0, 0, 1⟩ : D.Ins), (⟨1, 2, 1, 0⟩ : D.Ins), (⟨4, 3, 3, 2⟩ : D.Ins)] : List D.Ins)) ++ ([(⟨11, 0, (((f ++ ([(⟨8, 3, 0, 0⟩ : D.Ins)] : List D.Ins))).length : Int), 0⟩ : D.Ins)] : List D.Ins))).length : Int), (rd ((((f ++ ([(⟨8, 3, 0, 0⟩ : D.Ins)] : List D.Ins)) ++ ([(⟨10, 3, 0, 0⟩ : D.Ins)] : List D.Ins)) ++ ([(⟨3, 0, 0, 1⟩ : D.Ins), (⟨1, 2, 1, 0⟩ : D.Ins), (⟨4, 3, 3, 2⟩ : D.Ins)] : List D.Ins)) ++ ([(⟨11, 0, (((f ++ ([(⟨8, 3, 0, 0⟩ : D.Ins)] : List D.Ins))).length : Int), 0⟩ : D.Ins)] : List D.Ins)) (((f ++ ([(⟨8, 3, 0, 0⟩ : D.Ins)] : List D.Ins))).length : Int)).C⟩ : D.Ins) rfl (Nat.le_of_ble_eq_true rfl) rfl (fun dt q b6 du => ?_)
     have U := c.chg b6 (fun a => (v) _ ae a.symm)
     have c := U
     have d := d.chgb b6 (qfO p ⟨_, ae, rfl⟩ (fun a => (Or.inr a)))
     have e := q
     obtain ⟨ck, cl, cm⟩ := H
     exact ⟨ck, cl, (List.set ((((f ++ ([(⟨8, 3, 0, 0⟩ : D.Ins)] : List D.Ins)) ++ ([(⟨10, 3, 0, 0⟩ : D.Ins)] : List D.Ins)) ++ ([(⟨3, 0, 0, 1⟩ : D.Ins), (⟨1, 2, 1, 0⟩ : D.Ins), (⟨4, 3, 3, 2⟩ : D.Ins)] : List D.Ins)) ++ ([(⟨11, 0, (((f ++ ([(⟨8, 3, 0, 0⟩ : D.Ins)] : List D.Ins))).length : Int), 0⟩ : D.Ins)] : List D.Ins)) ((((f ++ ([(⟨8, 3, 0, 0⟩ : D.Ins)] : List D.Ins))).length : Int).toNat) (⟨(rd ((((f ++ ([(⟨8, 3, 0, 0⟩ : D.Ins)] : List D.Ins)) ++ ([(⟨10, 3, 0, 0⟩ : D.Ins)] : List D.Ins)) ++ ([(⟨3, 0, 0, 1⟩ : D.Ins), (⟨1, 2, 1, 0⟩ : D.Ins), (⟨4, 3, 3, 2⟩ : D.Ins)] : List D.Ins)) ++ ([(⟨11, 0, (((f ++ ([(⟨8, 3, 0, 0⟩ : D.Ins)] : List D.Ins))).length : Int), 0⟩ : D.Ins)] : List D.Ins)) (((f ++ ([(⟨8, 3, 0, 0⟩ : D.Ins)] : List D.Ins))).length : Int)).Op, (rd ((((f ++ ([(⟨8, 3, 0, 0⟩ : D.Ins)] : List D.Ins)) ++ ([(⟨10, 3, 0, 0⟩ : D.Ins)] : List D.Ins)) ++ ([(⟨3, 0, 0, 1⟩ : D.Ins), (⟨1, 2, 1, 0⟩ : D.Ins), (⟨4, 3, 3, 2⟩ : D.Ins)] : List D.Ins)) ++ ([(⟨11, 0, (((f ++ ([(⟨8, 3, 0, 0⟩ : D.Ins)] : List D.Ins))).length : Int), 0⟩ : D.Ins)] : List D.Ins)) (((f ++ ([(⟨8, 3, 0, 0⟩ : D.Ins)] : List D.Ins))).length : Int)).A, ((((((f ++ ([(⟨8, 3, 0, 0⟩ : D.Ins)] : List D.Ins)) ++ ([(⟨10, 3, 0, 0⟩ : D.Ins)] : List D.Ins)) ++ ([(⟨3, 0, 0, 1⟩ : D.Ins), (⟨1, 2, 1, 0⟩ : D.Ins), (⟨4, 3, 3, 2⟩ : D.Ins)] : List D.Ins)) ++ ([(⟨11, 0, (((f ++ ([(⟨8, 3, 0, 0⟩ : D.Ins)] : List D.Ins))).length : Int), 0⟩ : D.Ins)] : List D.Ins))).length : Int), (rd ((((f ++ ([(⟨8, 3, 0, 0⟩ : D.Ins)] : List D.Ins)) ++ ([(⟨10, 3, 0, 0⟩ : D.Ins)] : List D.Ins)) ++ ([(⟨3, 0, 0, 1⟩ : D.Ins), (⟨1, 2, 1, 0⟩ : D.Ins), (⟨4, 3, 3, 2⟩ : D.Ins)] : List D.Ins)) ++ ([(⟨11, 0, (((f ++ ([(⟨8, 3, 0, 0⟩ : D.Ins)] : List D.Ins))).length : Int), 0⟩ : D.Ins)] : List D.Ins)) (((f ++ ([(⟨8, 3, 0, 0⟩ : D.Ins)] : List D.Ins))).length : Int)).C⟩ : D.Ins)), (wrap .i64 (I - 1)), K.2.i, K.2.h, cg, ch, (by first | rfl | (simp only [bC, wC, List.length_set])), cm, d, (by first | exact e | (simp only [bC, wC, List.length_set]; exact e)), p, (by first | exact c | (simp only [bC, wC, List.length_set]; exact c))⟩
    obtain ⟨cn, H⟩ := H
    obtain ⟨Q, co, H⟩ := qaf H
    refine (qaq.con cn co c (G.chgS d n) O (fun o => (fun g a j => n o g a (Or.inl j)))).mono ?_
    rintro _ dv ⟨rfl, l, cp, b7⟩
    simp only [bC, wC, cp] at l
    have e := e.chgS b7 (qcG (e.qa6 c (by decide)))
    have d := d.chg b7 (fun g a => Or.inr (Or.inl a))
    have c := l
    refine ⟨Q.1.Op, trivial, Q.1.A, trivial, Q.1.B, trivial, Q.1.C, trivial, rfl, ?_⟩
    refine qaY el84 ([Q.1] : List D.Ins) (fun _ => by kernel_rfl) rfl (fun dw dx aG aH => ?_)
    have dy := aG.qaI c.lt
    have b8 := Own.qdL e aG (Nat.le_refl _)
    have c := c.ext aH
    have e := e.ext aH
    have af := aG.mono d.size
    have d := d.then aH
    obtain ⟨cq, H⟩ := H
    refine qfF qfI qfI.under e af.row (Nat.zero_le _) rfl (by first | rfl | omega | (simp; done) | (simp; omega)) cq (fun cr cs dz q a4 => ?_)
    have E := Apart.app (e.qa6 c (by decide)) a4 c.lt
    have c := c.app a4 (e.qa6 c (by decide))
    have ct := qd4.app (b8).symm a4 af
    have af := af.app a4 (b8).symm
    have v := E
    have dA := ct
    have s := d.size
    have d := d.app a4 (fun g a => (qfO z a (fun a => (Or.inr a))))
    have e := q
    have p := Mov.trans z a4.blk s
    obtain ⟨cu, cv, cw⟩ := H
    exact ⟨cu, cv, (f ++ ([Q.1] : List D.Ins)), (wrap .i64 (I - 1)), Q.2.i, Q.2.h, cr, cs, rfl, cw, d, e, p, c⟩
   obtain rfl := hr.trans H.symm
   exact ⟨J, P, rfl, (e.mono (Nat.zero_le _)), z, c, rfl, d⟩
  obtain rfl := hr.trans H.symm
  exact ⟨J, P, rfl, (e.mono (Nat.zero_le _)), z, c, rfl, d⟩

theorem qaJ.con {a : D.Cur} {c k o : Nat} {f d : OA} {j : List D.Ins} {l : Int} {r : (List D.Ins) × D.Cur} {w : World} (q : M.qcS a j l) (s : r = M.qaJ a j l) (t : Blk w c 129 #[(sv f a.b.length k), (iv a.i), (iv a.h)]) (u : Row el5 w f a.b) (v : a.b.length ≤ k) (x : Own el84 w 0 d o j) (y : a.b ≠ [] → ∀ g, InB f g → ¬ (fun e => e = c ∨ InB d e) g) :
    Cl 141 #[(.pointer (some (bx c))), (sv d j.length o), (iv l)] w (fun z m => ∃ (n : OA) (p : Nat), z = (sv n r.1.length p) ∧ Own el84 m 0 n p r.1 ∧ Mov w d n ∧ Blk m c 129 #[(sv f r.2.b.length k), (iv r.2.i), (iv r.2.h)] ∧ r.2.b = a.b ∧ Chg (fun e => e = c ∨ InB d e) w m) := qaJ.con_ _ q s t u v x y rfl
def qbs.vc (c : Addr) (w : World) (K : VK) : Prop :=
  newK w (.cells #[(iv 0), (iv 0), (iv 0), (iv 0)] 84) fun a j => Run Tryz.prog (Instr.buildSlice 24 3 #[(0, (iv 13)), (1, (iv 14)), (2, (iv 15))]) j fun k l => ∃ (d : OA) (e f : Nat), k = .slice d e f ∧ Cl 140 #[(.pointer (some c)), (sv d e f)] l fun m n => (∃ (g : Int), m = (iv g) ∧ Cl 67 #[(.pointer (some c)), (iv 4)] n fun o p => (∃ (h : Int), o = (iv h) ∧ Cl 67 #[(.pointer (some c)), (iv 4)] p fun q r => (∃ (i : Int), q = (iv i) ∧ qae (bx a) [(iv g), (iv h), (iv i), (iv 0)] 0 r fun b => ldI b ((bx a).add 0) fun s => ldI b ((bx a).add 1) fun t => ldI b ((bx a).add 2) fun u => ldI b ((bx a).add 3) fun v => K (.agg #[(iv s), (iv t), (iv u), (iv v)]) b)))

def qbs.ann : Ann := (.seq .l (.seq .l .l))

theorem qbs.con {f : D.Cur} {k v : Nat} {s : OA} {r : D.Ins × D.Cur} {w : World} (O : M.qex f) (P : r = M.qbs f) (d : Blk w k 129 #[(sv s f.b.length v), (iv f.i), (iv f.h)]) (x : Row el5 w s f.b) (y : f.b.length ≤ v) (l : f.b ≠ [] → ∀ g, InB s g → ¬ (fun n => n = k) g) :
    Cl 142 #[(.pointer (some (bx k)))] w (fun Q A => Q = (.agg (iC r.1)) ∧ Blk A k 129 #[(sv s r.2.b.length v), (iv r.2.i), (iv r.2.h)] ∧ r.2.b = f.b ∧ Chg (fun n => n = k) w A) := by
 have H := wp.qbs.math f O
 have c := Chg.refl (fun n => n = k) w
 refine begK mixed Tryz.f142 ann (vc (bx k)) ?_
 unfold vc
 unfold wp.qbs at H
 refine qbx (fun a2 a3 t R B => ?_)
 have u := d.ne t
 have d := d.ext B
 have t := Nat.le_trans c.size t
 have c := c.then B
 refine qaY el3 ([13, 14, 15] : List Int) (fun _ => by kernel_rfl) rfl (fun a4 a5 C z => ?_)
 have S := C.qaI d.lt
 have d := d.ext z
 have E := C.mono c.size
 have c := c.then z
 obtain ⟨T, H⟩ := H
 obtain ⟨F, U, H⟩ := qaf H
 refine (cllA (qap.con T U d (x.chgS c l) y E.row E.le (fun p => (fun g e q => l p g e q)) (fun _ => (qcG S)))).mono ?_
 rintro _ a6 ⟨rfl, j, V, G⟩
 simp only [bC, wC, V] at j
 have c := c.chg G (fun g e => Or.inr e)
 have d := j
 refine ⟨F.1, rfl, ?_⟩
 obtain ⟨W, H⟩ := H
 obtain ⟨I, X, H⟩ := qaf H
 refine (qa0.con W X d (x.chgS c l) y (fun p => (fun g e q => l p g e q))).mono ?_
 rintro _ a7 ⟨rfl, j, Y, J⟩
 simp only [bC, wC, Y] at j
 have c := c.chg J (fun g e => Or.inr e)
 have d := j
 refine ⟨I.1, rfl, ?_⟩
 obtain ⟨Z, H⟩ := H
 obtain ⟨K, a0, H⟩ := qaf H
 refine (qa0.con Z a0 d (x.chgS c l) y (fun p => (fun g e q => l p g e q))).mono ?_
 rintro _ a8 ⟨rfl, j, a1, L⟩
 simp only [bC, wC, a1] at j
 have m := (((R.ext z).chgS G ((u).symm)).chgS J ((u).symm)).chgS L ((u).symm)
 refine ⟨K.1, rfl, ?_⟩
 refine qd9 m (o := 0) (cs' := #[(iv F.1), (iv I.1), (iv K.1), (iv 0)]) rfl rfl (Nat.le_of_ble_eq_true rfl) rfl (fun a9 m N => ?_)
 have d := j.chg N u
 have c := (c.chg L (fun g e => Or.inr e)).chgb N (Or.inl t)
 refine ⟨_, (m.a 0), _, (m.a 1), _, (m.a 2), _, (m.a 3), ?_⟩
 cases P.trans H.symm
 exact ⟨rfl, d, rfl, c⟩
def qaC.vc (b : Addr) (w : World) (K : VK) : Prop :=
  Run Tryz.prog (Instr.buildSlice 30 1 #[(0, (.agg #[(iv 8), (iv 0), (iv 0), (iv 0)]))]) w fun ae af => ∃ (g : OA) (h i : Nat), ae = .slice g h i ∧ Cl 67 #[(.pointer (some b)), (iv 5)] af fun ag ah => (∃ (j : Int), ag = (iv j) ∧ qdS (σ := (OA × Nat × Nat) × Int × Unit) (fun a f c => qa1 (decide (a.2.1 > 0)) (qa1 (decide ((wrap .i64 (((a.1.2.1 : Nat) : Int) + 4)) ≤ 32)) (Cl 67 #[(.pointer (some b)), (iv 7)] f fun ai d => (∃ (e : Int), ai = (iv e) ∧ qa1 (e == 0) (Run Tryz.prog (Instr.buildSlice 30 1 #[(0, (.agg #[(iv 16), (iv 0), (iv 0), (iv 0)]))]) d fun aj ak => ∃ (k : OA) (l m : Nat), aj = .slice k l m ∧ Run Tryz.prog (Builtin.append_ #[30, 30] 30 #[(sv a.1.1 a.1.2.1 a.1.2.2), (sv k l m)]) ak fun al am => ∃ (n : OA) (o p : Nat), al = .slice n o p ∧ c ((n, o, p), (wrap .i64 (a.2.1 - 1)), ()) am) (qa1 (e == 1) (Cl 67 #[(.pointer (some b)), (iv 4)] d fun an ao => (∃ (q : Int), an = (iv q) ∧ Run Tryz.prog (Instr.buildSlice 30 2 #[(0, (.agg #[(iv 8), (iv 0), (iv 0), (iv 0)])), (1, (.agg #[(iv 14), (iv 0), (iv q), (iv 0)]))]) ao fun ap aq => ∃ (r : OA) (s t : Nat), ap = .slice r s t ∧ Run Tryz.prog (Builtin.append_ #[30, 30] 30 #[(sv a.1.1 a.1.2.1 a.1.2.2), (sv r s t)]) aq fun ar au => ∃ (u : OA) (v x : Nat), ar = .slice u v x ∧ c ((u, v, x), (wrap .i64 (a.2.1 - 1)), ()) au)) (qa1 (e == 2) (Run Tryz.prog (Instr.buildSlice 24 3 #[(0, (iv 1)), (1, (iv 8)), (2, (iv 31))]) d fun av aw => ∃ (y : OA) (z A : Nat), av = .slice y z A ∧ Cl 140 #[(.pointer (some b)), (sv y z A)] aw fun ax ay => (∃ (B : Int), ax = (iv B) ∧ Run Tryz.prog (Instr.buildSlice 30 4 #[(0, (.agg #[(iv 1), (iv 1), (iv B), (iv 0)])), (1, (.agg #[(iv 8), (iv 0), (iv 0), (iv 0)])), (2, (.agg #[(iv 3), (iv 0), (iv 0), (iv 1)])), (3, (.agg #[(iv 13), (iv 2), (iv 0), (iv 0)]))]) ay fun az aA => ∃ (C : OA) (D E : Nat), az = .slice C D E ∧ Run Tryz.prog (Builtin.append_ #[30, 30] 30 #[(sv a.1.1 a.1.2.1 a.1.2.2), (sv C D E)]) aA fun aB aC => ∃ (F : OA) (G H : Nat), aB = .slice F G H ∧ c ((F, G, H), (wrap .i64 (a.2.1 - 1)), ()) aC)) (qa1 (e == 3) (Cl 67 #[(.pointer (some b)), (iv 8)] d fun aD aE => (∃ (I : Int), aD = (iv I) ∧ Cl 67 #[(.pointer (some b)), (iv 4)] aE fun aF aG => (∃ (J : Int), aF = (iv J) ∧ Run Tryz.prog (Instr.buildSlice 30 2 #[(0, (.agg #[(iv 1), (iv 1), (iv (wrap .i64 (24 + I))), (iv 0)])), (1, (.agg #[(iv 15), (iv 1), (iv J), (iv 0)]))]) aG fun aH aI => ∃ (L : OA) (M N : Nat), aH = .slice L M N ∧ Run Tryz.prog (Builtin.append_ #[30, 30] 30 #[(sv a.1.1 a.1.2.1 a.1.2.2), (sv L M N)]) aI fun aJ aK => ∃ (O : OA) (P Q : Nat), aJ = .slice O P Q ∧ c ((O, P, Q), (wrap .i64 (a.2.1 - 1)), ()) aK))) (qa1 (e == 4) (qa1 (decide (((a.1.2.1 : Nat) : Int) < 12)) (Cl 141 #[(.pointer (some b)), (sv a.1.1 a.1.2.1 a.1.2.2), (iv 1)] d fun aL aM => (∃ (R : OA) (S T : Nat), aL = (sv R S T) ∧ c ((R, S, T), (wrap .i64 (a.2.1 - 1)), ()) aM)) (c ((a.1.1, a.1.2.1, a.1.2.2), (wrap .i64 (a.2.1 - 1)), ()) d)) (qa1 (e == 5) (Cl 142 #[(.pointer (some b))] d fun aN aO => (∃ (U : Int), True ∧ ∃ (V : Int), True ∧ ∃ (W : Int), True ∧ ∃ (X : Int), True ∧ aN = (.agg #[(iv U), (iv V), (iv W), (iv X)]) ∧ Run Tryz.prog (Instr.buildSlice 30 1 #[(0, (.agg #[(iv U), (iv V), (iv W), (iv X)]))]) aO fun aP aQ => ∃ (Y : OA) (Z a0 : Nat), aP = .slice Y Z a0 ∧ Run Tryz.prog (Builtin.append_ #[30, 30] 30 #[(sv a.1.1 a.1.2.1 a.1.2.2), (sv Y Z a0)]) aQ fun aR aS => ∃ (a1 : OA) (a2 a3 : Nat), aR = .slice a1 a2 a3 ∧ c ((a1, a2, a3), (wrap .i64 (a.2.1 - 1)), ()) aS)) (Cl 143 #[(.pointer (some b))] d fun aT aU => (∃ (a4 : Int), True ∧ ∃ (a5 : Int), True ∧ ∃ (a6 : Int), True ∧ ∃ (a7 : Int), True ∧ aT = (.agg #[(iv a4), (iv a5), (iv a6), (iv a7)]) ∧ Run Tryz.prog (Instr.buildSlice 30 1 #[(0, (.agg #[(iv a4), (iv a5), (iv a6), (iv a7)]))]) aU fun aV aW => ∃ (a8 : OA) (a9 aa : Nat), aV = .slice a8 a9 aa ∧ Run Tryz.prog (Builtin.append_ #[30, 30] 30 #[(sv a.1.1 a.1.2.1 a.1.2.2), (sv a8 a9 aa)]) aW fun aX aY => ∃ (ab : OA) (ac ad : Nat), aX = .slice ab ac ad ∧ c ((ab, ac, ad), (wrap .i64 (a.2.1 - 1)), ()) aY))))))))) (K (sv a.1.1 a.1.2.1 a.1.2.2) f)) (K (sv a.1.1 a.1.2.1 a.1.2.2) f)) ((g, h, i), (wrap .i64 (1 + j)), ()) ah)

def qaC.ann : Ann := (.seq .l (.seq .l (.seq (.seq .l (.one (.loop [(3, .sl), (4, .int .i64)] (.seq (.seq .l (.two .l .l)) (.seq (.one (.seq .l (.one (.seq .l (.two .l (.seq .l (.two .l (.seq .l (.two .l (.seq .l (.two .l (.seq .l (.two (.seq .l (.two .l .l)) (.seq .l (.two .l .l))))))))))))))) .l))))) (.seq .l .l))))

theorem qaC.con {m : D.Cur} {p F : Nat} {x : OA} {r : (List D.Ins) × D.Cur} {w : World} (hp : M.qen m) (U : r = M.qaC m) (d : Blk w p 129 #[(sv x m.b.length F), (iv m.i), (iv m.h)]) (o : Row el5 w x m.b) (q : m.b.length ≤ F) (k : m.b ≠ [] → ∀ g, InB x g → ¬ (fun s => s = p) g) :
    Cl 85 #[(.pointer (some (bx p)))] w (fun v_ t => ∃ (V : OA) (W : Nat), v_ = (sv V r.1.length W) ∧ Own el84 t w.heap.size V W r.1 ∧ Blk t p 129 #[(sv x r.2.b.length F), (iv r.2.i), (iv r.2.h)] ∧ r.2.b = m.b ∧ Chg (fun s => s = p) w t) := by
 have H := wp.qaC.math m hp
 have a := Chg.refl (fun s => s = p) w
 refine begK mixed Tryz.f85 ann (vc (bx p)) ?_
 unfold vc
 unfold wp.qaC at H
 refine qaY el84 ([(⟨8, 0, 0, 0⟩ : D.Ins)] : List D.Ins) (fun _ => by kernel_rfl) rfl (fun al bT X Y => ?_)
 have am := X.qaI d.lt
 have d := d.ext Y
 have I := X.mono a.size
 have a := a.then Y
 obtain ⟨an, H⟩ := H
 obtain ⟨G, ao, H⟩ := qaf H
 refine (qa0.con an ao d (o.chgS a k) q (fun l => (fun g e j => k l g e j))).mono ?_
 rintro _ bU ⟨rfl, f, ap, Z⟩
 simp only [bC, wC, ap] at f
 have I := I.chgS Z (qcG am)
 have a := a.chg Z (fun g e => Or.inr e)
 have d := f
 refine ⟨G.1, rfl, ?_⟩
 obtain ⟨aq, ⟨ar, au⟩, a0⟩ := H
 refine ⟨fun m_ z_ t => ∃ (y : List D.Ins) (J K L : Int) (u : OA) (v : Nat), z_ = ((u, y.length, v), J, ()) ∧ aq m_ (y, J, K, L, ()) ∧ Chg (fun s => s = p) w t ∧ Own el84 t w.heap.size u v y ∧ Blk t p 129 #[(sv x m.b.length F), (iv K), (iv L)], ⟨ar, ([(⟨8, 0, 0, 0⟩ : D.Ins)] : List D.Ins), (wrap .i64 (1 + G.1)), G.2.i, G.2.h, al, 1, rfl, au, a, I, d⟩, ?_⟩
 rintro av _ bV ⟨y, J, K, L, u, v, rfl, a1, a, c, d⟩
 have H := a0 av _ a1
 clear a0 a1
 try dsimp only at H ⊢
 apply brc H<;>intro h H
 ·apply brc H<;>intro h H
  ·obtain ⟨aw, H⟩ := H
   obtain ⟨ax, ay, H⟩ := qaf H
   refine (qa0.con aw ay d (o.chgS a k) q (fun l => (fun g e j => k l g e j))).mono ?_
   rintro _ bW ⟨rfl, f, az, a2⟩
   simp only [bC, wC, az] at f
   have c := c.chgS a2 (qcG (c.qa6 d (by decide)))
   have a := a.chg a2 (fun g e => Or.inr e)
   have d := f
   refine ⟨ax.1, rfl, ?_⟩
   apply brc H<;>intro h H
   ·refine qaY el84 ([(⟨16, 0, 0, 0⟩ : D.Ins)] : List D.Ins) (fun _ => by kernel_rfl) rfl (fun bX bY P7 N => ?_)
    have d := d.ext N
    have c := c.ext N
    have O7 := P7.mono a.size
    have a := a.then N
    obtain ⟨aA, H⟩ := H
    refine appO qfI c O7.row a.size aA (fun aB aC bZ n a3 => ?_)
    have d := d.app a3 (c.qa6 d (by decide))
    have a := a.app a3 (fun g e => Or.inl (c.low g e))
    have c := n
    obtain ⟨aD, aE, aF⟩ := H
    exact ⟨aD, aE, _, _, _, _, aB, aC, rfl, aF, a, c, d⟩
   apply brc H<;>intro h H
   ·obtain ⟨aG, H⟩ := H
    obtain ⟨a4, aH, H⟩ := qaf H
    refine (qa0.con aG aH d (o.chgS a k) q (fun l => (fun g e j => k l g e j))).mono ?_
    rintro _ c0 ⟨rfl, f, aI, a5⟩
    simp only [bC, wC, aI] at f
    have c := c.chgS a5 (qcG (c.qa6 d (by decide)))
    have a := a.chg a5 (fun g e => Or.inr e)
    refine ⟨a4.1, rfl, ?_⟩
    refine qaY el84 ([(⟨8, 0, 0, 0⟩ : D.Ins), (⟨14, 0, a4.1, 0⟩ : D.Ins)] : List D.Ins) (fun _ => by kernel_rfl) rfl (fun c1 c2 P8 O => ?_)
    have d := f.ext O
    have c := c.ext O
    have O8 := P8.mono a.size
    have a := a.then O
    obtain ⟨aJ, H⟩ := H
    refine appO qfI c O8.row a.size aJ (fun aK aL c3 n a6 => ?_)
    have d := d.app a6 (c.qa6 d (by decide))
    have a := a.app a6 (fun g e => Or.inl (c.low g e))
    have c := n
    obtain ⟨aM, aN, aO⟩ := H
    exact ⟨aM, aN, _, _, _, _, aK, aL, rfl, aO, a, c, d⟩
   apply brc H<;>intro h H
   ·refine qaY el3 ([1, 8, 31] : List Int) (fun _ => by kernel_rfl) rfl (fun c4 c5 P9 P => ?_)
    have aP := P9.qaI d.lt
    have d := d.ext P
    have c := c.ext P
    have O9 := P9.mono a.size
    have a := a.then P
    obtain ⟨aQ, H⟩ := H
    obtain ⟨a7, aR, H⟩ := qaf H
    refine (cllA (qap.con aQ aR d (o.chgS a k) q O9.row O9.le (fun l => (fun g e j => k l g e j)) (fun _ => (qcG aP)))).mono ?_
    rintro _ c6 ⟨rfl, f, aS, a8⟩
    simp only [bC, wC, aS] at f
    have c := c.chgS a8 (qcG (c.qa6 d (by decide)))
    have a := a.chg a8 (fun g e => Or.inr e)
    refine ⟨a7.1, rfl, ?_⟩
    refine qaY el84 ([(⟨1, 1, a7.1, 0⟩ : D.Ins), (⟨8, 0, 0, 0⟩ : D.Ins), (⟨3, 0, 0, 1⟩ : D.Ins), (⟨13, 2, 0, 0⟩ : D.Ins)] : List D.Ins) (fun _ => by kernel_rfl) rfl (fun c7 c8 aT Q => ?_)
    have d := f.ext Q
    have c := c.ext Q
    have aU := aT.mono a.size
    have a := a.then Q
    obtain ⟨aV, H⟩ := H
    refine appO qfI c aU.row a.size aV (fun aW aX c9 n a9 => ?_)
    have d := d.app a9 (c.qa6 d (by decide))
    have a := a.app a9 (fun g e => Or.inl (c.low g e))
    have c := n
    obtain ⟨aY, aZ, b0⟩ := H
    exact ⟨aY, aZ, _, _, _, _, aW, aX, rfl, b0, a, c, d⟩
   apply brc H<;>intro h H
   ·obtain ⟨b1, H⟩ := H
    obtain ⟨aa, b2, H⟩ := qaf H
    refine (qa0.con b1 b2 d (o.chgS a k) q (fun l => (fun g e j => k l g e j))).mono ?_
    rintro _ ca ⟨rfl, f, b3, ab⟩
    simp only [bC, wC, b3] at f
    have c := c.chgS ab (qcG (c.qa6 d (by decide)))
    have a := a.chg ab (fun g e => Or.inr e)
    have d := f
    refine ⟨aa.1, rfl, ?_⟩
    obtain ⟨b4, H⟩ := H
    obtain ⟨ac, b5, H⟩ := qaf H
    refine (qa0.con b4 b5 d (o.chgS a k) q (fun l => (fun g e j => k l g e j))).mono ?_
    rintro _ cb ⟨rfl, f, b6, ad⟩
    simp only [bC, wC, b6] at f
    have c := c.chgS ad (qcG (c.qa6 d (by decide)))
    have a := a.chg ad (fun g e => Or.inr e)
    refine ⟨ac.1, rfl, ?_⟩
    refine qaY el84 ([(⟨1, 1, (wrap .i64 (24 + aa.1)), 0⟩ : D.Ins), (⟨15, 1, ac.1, 0⟩ : D.Ins)] : List D.Ins) (fun _ => by kernel_rfl) rfl (fun cc cd b7 R => ?_)
    have d := f.ext R
    have c := c.ext R
    have b8 := b7.mono a.size
    have a := a.then R
    obtain ⟨b9, H⟩ := H
    refine appO qfI c b8.row a.size b9 (fun ba bb ce n ae => ?_)
    have d := d.app ae (c.qa6 d (by decide))
    have a := a.app ae (fun g e => Or.inl (c.low g e))
    have c := n
    obtain ⟨bc, bd, be⟩ := H
    exact ⟨bc, bd, _, _, _, _, ba, bb, rfl, be, a, c, d⟩
   apply brc H<;>intro h H
   ·apply brc H<;>intro h H
    ·obtain ⟨bf, H⟩ := H
     obtain ⟨bg, bh, H⟩ := qaf H
     refine (qaJ.con bf bh d (o.chgS a k) q (c.mono (Nat.zero_le _)) (fun l => (fun g e => (fun j => j.elim ((fun g e j => k l g e j) g e) ((fun g e j => Nat.not_le.2 (o.old l g e) (c.low g j)) g e))))).mono ?_
     rintro _ cf ⟨af, ag, rfl, bi, bj, f, bk, bl⟩
     simp only [bC, wC, bk] at f
     have bm := bj.low c.low a.size
     have a := a.chg bl (fun g => (fun j => j.elim ((fun g e => Or.inr e) g) ((fun g e => Or.inl (c.low g e)) g)))
     have d := f
     have bn := bi.lift bm
     refine ⟨af, bg.1.length, ag, rfl, ?_⟩
     obtain ⟨bo, bp, bq⟩ := H
     exact ⟨bo, bp, _, _, _, _, af, ag, rfl, bq, a, bn, d⟩
    obtain ⟨br, bs, bt⟩ := H
    exact ⟨br, bs, y, _, _, _, u, v, rfl, bt, a, c, d⟩
   apply brc H<;>intro h H
   ·obtain ⟨bu, H⟩ := H
    obtain ⟨z, bv, H⟩ := qaf H
    refine (qbs.con bu bv d (o.chgS a k) q (fun l => (fun g e j => k l g e j))).mono ?_
    rintro _ cg ⟨rfl, f, bw, ah⟩
    simp only [bC, wC, bw] at f
    have c := c.chgS ah (qcG (c.qa6 d (by decide)))
    have a := a.chg ah (fun g e => Or.inr e)
    refine ⟨z.1.Op, trivial, z.1.A, trivial, z.1.B, trivial, z.1.C, trivial, rfl, ?_⟩
    refine qaY el84 ([z.1] : List D.Ins) (fun _ => by kernel_rfl) rfl (fun ch ci bz S => ?_)
    have d := f.ext S
    have c := c.ext S
    have bA := bz.mono a.size
    have a := a.then S
    obtain ⟨bB, H⟩ := H
    refine appO qfI c bA.row a.size bB (fun bD bE cj n ai => ?_)
    have d := d.app ai (c.qa6 d (by decide))
    have a := a.app ai (fun g e => Or.inl (c.low g e))
    have c := n
    obtain ⟨bF, bG, bH⟩ := H
    exact ⟨bF, bG, _, _, _, _, bD, bE, rfl, bH, a, c, d⟩
   obtain ⟨bI, H⟩ := H
   obtain ⟨E, bJ, H⟩ := qaf H
   refine (qaq.con bI bJ d (o.chgS a k) q (fun l => (fun g e j => k l g e j))).mono ?_
   rintro _ ck ⟨rfl, f, bK, aj⟩
   simp only [bC, wC, bK] at f
   have c := c.chgS aj (qcG (c.qa6 d (by decide)))
   have a := a.chg aj (fun g e => Or.inr e)
   refine ⟨E.1.Op, trivial, E.1.A, trivial, E.1.B, trivial, E.1.C, trivial, rfl, ?_⟩
   refine qaY el84 ([E.1] : List D.Ins) (fun _ => by kernel_rfl) rfl (fun cl cm bL T => ?_)
   have d := f.ext T
   have c := c.ext T
   have bM := bL.mono a.size
   have a := a.then T
   obtain ⟨bN, H⟩ := H
   refine appO qfI c bM.row a.size bN (fun bO bP cn n ak => ?_)
   have d := d.app ak (c.qa6 d (by decide))
   have a := a.app ak (fun g e => Or.inl (c.low g e))
   have c := n
   obtain ⟨bQ, bR, bS⟩ := H
   exact ⟨bQ, bR, _, _, _, _, bO, bP, rfl, bS, a, c, d⟩
  cases U.trans H.symm
  exact ⟨u, v, rfl, c, d, rfl, a⟩
 cases U.trans H.symm
 exact ⟨u, v, rfl, c, d, rfl, a⟩
def qbH.vc (e : OA) (f g : Nat) (w : World) (K : VK) : Prop :=
  Cl 59 #[(sv e f g)] w fun h i => (∃ (a : Addr), h = (.pointer (some a)) ∧ Cl 85 #[(.pointer (some a))] i fun j k => (∃ (b : OA) (c d : Nat), j = (sv b c d) ∧ K (sv b c d) k))

def qbH.ann : Ann := (.seq .l (.seq .l .l))

theorem qbH.con {b : List Int} {d : OA} {e : Nat} {r : List D.Ins} {w : World} (o : M.qe7 b) (p : r = M.qbH b) (f : Row el5 w d b) (h : b.length ≤ e) :
    Cl 37 #[(sv d b.length e)] w (fun q i => ∃ (j : OA) (k : Nat), q = (sv j r.length k) ∧ Own el84 i w.heap.size j k r ∧ Ext w i) := by
 have H := wp.qbH.math b o
 have a := Ext.refl w
 refine begK mixed Tryz.f37 ann (vc d b.length e) ?_
 unfold vc
 unfold wp.qbH at H
 obtain ⟨s, H⟩ := H
 obtain ⟨L, t, H⟩ := qaf H
 refine (qaM.con s t (f.ext a) h).mono ?_
 rintro _ N ⟨u, rfl, l, v, c, x⟩
 simp only [bC, wC, v] at l
 have c := Nat.le_trans a.size c
 have a := qac a x
 refine ⟨(bx u), rfl, ?_⟩
 obtain ⟨y, H⟩ := H
 obtain ⟨z, A, H⟩ := qaf H
 refine (qaC.con y A l (f.ext a) h (fun B => (fun g C E => Nat.not_le.2 (f.old B g C) (qfH c _ E)))).mono ?_
 rintro _ O ⟨m, n, rfl, F, G, I, J⟩
 simp only [bC, wC, I] at G
 have K := F.mono a.size
 have a := Chg.ext a J (qfH c)
 refine ⟨m, z.1.length, n, rfl, ?_⟩
 cases p.trans H.symm
 exact ⟨m, n, rfl, K, a⟩
def qby.vc (h : Addr) (b F G H I : Int) (w : World) (K : VK) : Prop :=
  newK w (.cells #[(iv F), (iv G), (iv H), (iv I)] 84) fun c j => ldS j ((h.add 1).add 0) fun J L aD => (idx b L J fun o => ldI j ((o.add ((b.toNat) * 3)).add 0) fun M => ldS j ((o.add ((b.toNat) * 3)).add 1) fun N O P => ldS j ((o.add ((b.toNat) * 3)).add 2) fun Q R S => Cl 106 #[(.agg #[(iv M), (sv N O P), (sv Q R S)])] j fun T U => (∃ (s : Int), T = (iv s) ∧ Cl 105 #[(iv s)] U fun V W => (∃ (t : OA) (p X : Nat), V = (sv t p X) ∧ qdS (σ := Int × Unit) (fun d e m => qa1 (decide (d.1 < ((p : Nat) : Int))) ((idx d.1 p t fun Y => ldI e ((Y.add ((d.1.toNat) * 1)).add 0) fun Z => ldS e ((h.add 1).add 0) fun a0 a1 aE => (idx b a1 a0 fun q => ldI e ((q.add ((b.toNat) * 3)).add 0) fun a2 => ldS e ((q.add ((b.toNat) * 3)).add 1) fun a3 a4 a5 => ldS e ((q.add ((b.toNat) * 3)).add 2) fun a6 a7 a8 => Cl 107 #[(.agg #[(iv a2), (sv a3 a4 a5), (sv a6 a7 a8)]), (iv Z)] e fun a9 a => (∃ (f : OA) (g aa : Nat), a9 = (sv f g aa) ∧ ldI a (((bx c).add 0).add 0) fun r => qa1 (r == 13) ((∃ k : Nat → Prop, ldIM k a ((bx c).add 1) 0 fun u => ldSM k a (h.add 2) 0 fun ab ac aF => ldIM k a ((bx c).add 2) 0 fun v => (idx v g f fun ad => ldIM k a (ad.add ((v.toNat) * 1)) 0 fun x => ((32 : Int) ≠ 0 ∧ (idx (Int.tmod x 32) ac ab fun ae => ldIM k a (ae.add (((Int.tmod x 32).toNat) * 1)) 0 fun af => (idx u g f fun ag => qae (ag.add ((u.toNat) * 1)) [(iv af)] 0 a.drew fun ah => m ((wrap .i64 (d.1 + 1)), ()) ah)))))) (qa1 (r == 14) ((∃ l : Nat → Prop, ldSM l a (h.add 2) 0 fun ai aj aG => ldIM l a ((bx c).add 1) 0 fun y => (idx y g f fun ak => ldIM l a (ak.add ((y.toNat) * 1)) 0 fun z => ((32 : Int) ≠ 0 ∧ ldIM l a ((bx c).add 2) 0 fun A => (idx A g f fun al => ldIM l a (al.add ((A.toNat) * 1)) 0 fun am => (idx (Int.tmod z 32) aj ai fun an => qae (an.add (((Int.tmod z 32).toNat) * 1)) [(iv am)] 0 a.drew fun ao => m ((wrap .i64 (d.1 + 1)), ()) ao)))))) (qa1 (r == 15) (ldI a (((bx c).add 1).add 0) fun B => (idx B g f fun ap => ldI a ((ap.add ((B.toNat) * 1)).add 0) fun n => ((32 : Int) ≠ 0 ∧ (∃ i : Nat → Prop, ldSM i a (h.add 2) 0 fun aq ar aH => ldSM i a (h.add 2) 0 fun au av aI => (idx (Int.tmod n 32) av au fun aw => ldIM i a (aw.add (((Int.tmod n 32).toNat) * 1)) 0 fun ax => ldIM i a ((bx c).add 2) 0 fun C => (idx C g f fun ay => ldIM i a (ay.add ((C.toNat) * 1)) 0 fun az => Cl 173 #[(iv ax), (iv az)] a.drew fun aA D => (∃ (E : Int), aA = (iv E) ∧ qaS i a D ∧ (idx (Int.tmod n 32) ar aq fun aB => qae (aB.add (((Int.tmod n 32).toNat) * 1)) [(iv E)] 0 D fun aC => m ((wrap .i64 (d.1 + 1)), ()) aC)))))))) (m ((wrap .i64 (d.1 + 1)), ()) a))))))) (K (.tuple #[]) e)) (0, ()) W)))

def qby.ann : Ann := (.seq .l (.seq .l (.one (.loop [(20, .int .i64)] (.seq .l (.seq (.two .l .l) (.seq (.one (.seq .l (.seq .l (.seq .l (.one (.seq .l (.two .l (.seq .l (.two .l (.seq .l (.two (.seq .l .l) .l))))))))))) .l)))))))

theorem qby.con {p r : D.Block} {R af aa a5 : Nat} {ab t E : OA} {J : Nat → Prop} {K : Int} {F : D.Ins} {w : World} (hp : M.qdV p K F) (hr : r = M.qby p K F) (d : Blk w R 33 (bC ab af t aa E a5 p)) (cg : Row el84 w ab p.Code) (ch : p.Code.length ≤ af) (u : OwnW 52 el91 el3 w 0 J t aa p.Warps) (c : Own el3 w 0 E a5 p.Memory) (v : Dis (InW t J) (InB E)) (ci : p.Code ≠ [] → ∀ g, InB ab g → ¬ (fun x => InW t J x ∨ InB E x ∨ x = R) g) :
    Cl 131 #[(.pointer (some (bx R))), (iv K), (.agg (iC F))] w (fun v_ I => ∃ (an : OA) (aA : Nat) (aB : Nat → Prop), v_ = (.tuple #[]) ∧ Blk I R 33 #[(sv ab r.Code.length af), (sv an r.Warps.length aA), (sv E p.Memory.length a5), (iv r.Waiting), (iv r.Phase)] ∧ r.Code = p.Code ∧ OwnW 52 el91 el3 I 0 aB an aA r.Warps ∧ MovW w (InW t J) (InW an aB) ∧ Own el3 I 0 E a5 r.Memory ∧ r.Memory.length = p.Memory.length ∧ Chg (fun x => InW t J x ∨ InB E x ∨ x = R) w I) := by
 have H := wp.qby.math p K F hp
 refine begK mixed Tryz.f131 ann (vc (bx R) K F.Op F.A F.B F.C) ?_
 unfold vc
 unfold wp.qby at H
 have W := MovW.refl w (InW t J)
 refine qbx (fun b3 cj L5 j ag => ?_)
 have aC := c.qbI L5
 have d := d.ext ag
 have u := u.ext ag
 refine ⟨_, _, _, (d.a 1), ?_⟩
 obtain ⟨⟨aD, aE⟩, H⟩ := H
 obtain ⟨b4, ck, b5, cl, cm, cn, co, cp, cq, ah, b6, b7, L, S, X, O9, ac, b8, b9, cr, L6⟩ := OwnW.focus u aD aE (by decide) (by decide) (by decide)
 have ba := qdu v (qfZ ac)
 have bb := qij (qdu v (qkl ac))
 refine ⟨aD, aE, (⟨b4, b5, none⟩ : Addr), ah, ?_⟩
 try dsimp only
 try rw [b6]
 refine ⟨_, (L.a 0), _, _, _, (L.a 1), _, _, _, (L.a 2), ?_⟩
 obtain ⟨bc, H⟩ := H
 obtain ⟨bd, be, H⟩ := qaf H
 refine (cllA (qb0.con bc be S.row S.le X.row X.le)).mono ?_
 rintro _ cs ⟨rfl, Y⟩
 have c := (c.ext ag).ext Y
 have L := L.ext Y
 have S := S.ext Y
 have X := X.ext Y
 have O9 := O9.ext Y
 have n := ((Chg.refl (fun x => InW t J x ∨ InB E x ∨ x = R) w).then ag).then Y
 refine ⟨bd, rfl, ?_⟩
 obtain ⟨q, bf, H⟩ := qaf H
 refine (qbM.con bf ).mono ?_
 rintro _ ct ⟨ao, aF, rfl, a6, Z⟩
 have aG := aN c a6
 have bg := a6.qaI L.lt
 have bh := aN S a6
 have bi := aN X a6
 have bj := O9.qgr a6 (Nat.le_refl _)
 have d := (d.ext Y).ext Z
 have c := c.ext Z
 have j := (j.ext Y).ext Z
 have L := L.ext Z
 have S := S.ext Z
 have X := X.ext Z
 have O9 := O9.ext Z
 have k := a6.mono n.size
 have n := n.then Z
 refine ⟨ao, q.length, aF, rfl, ?_⟩
 have u := ((qeK.back O9 ah b7 L S X (by first | rfl | (simp only [bC, wC, List.length_set]; done) | (simp; done) | (simp; omega)) (by first | rfl | (simp only [bC, wC, List.length_set]; done) | (simp; done) | (simp; omega)) (fun _ _ => Nat.zero_le _) (fun _ _ => Nat.zero_le _) (by decide) (by decide) (by decide) b8 b9).qlp ac).unset
 have v := qdu (qef (qhS ah (c.qa6 L.b (by decide))) ba (Own.qaw S c (by decide)) bb) (qea ac)
 have G := qdu (qef (qhS ah bg) bj bh bi) (qea ac)
 obtain ⟨bk, ⟨bl, bm⟩, aH⟩ := H
 refine ⟨fun m_ z_ I => ∃ (o : Int) (T : List D.Warp) (a7 : List Int) (N : Nat → Prop), z_ = (o, ()) ∧ bk m_ (o, T, a7, ()) ∧ Chg (fun x => InW t J x ∨ InB E x ∨ x = R) w I ∧ OwnW 52 el91 el3 I 0 N t aa T ∧ p.Warps.length = T.length ∧ MovW w (InW t J) (InW t N) ∧ Dis (InW t N) (InB E) ∧ Dis (InW t N) (InB ao) ∧ Own el3 I 0 E a5 a7 ∧ p.Memory.length = a7.length ∧ Blk I R 33 (bC ab af t aa E a5 p) ∧ Blk I b3 84 (iC F) ∧ Own el3 I w.heap.size ao aF q, ⟨bl, 0, p.Warps, p.Memory, J, rfl, bm, n, u, (by first | rfl | assumption | omega | (simp; done) | (simp; omega) | (simp; assumption)), W, v, G, c, (by first | rfl | assumption | omega | (simp; done) | (simp; omega) | (simp; assumption)), d, j, k⟩, ?_⟩
 rintro bn _ cu ⟨o, T, a7, N, rfl, aI, n, u, aJ, W, v, G, c, a3, d, j, k⟩
 have H := aH bn _ aI
 clear aH aI
 try dsimp only at H ⊢
 apply brc H<;>intro h H
 ·obtain ⟨⟨aK, aL⟩, H⟩ := H
  obtain ⟨bo, bp, bq⟩ := Row.at k.row aK aL
  refine ⟨aK, aL, bo, bp, _, (bq 0 _ rfl), _, _, _, (d.a 1), ?_⟩
  obtain ⟨⟨aM, ap⟩, H⟩ := H
  obtain ⟨br, cv, bs, cw, cx, bt, aO, cy, cz, z, bu, ai, f, i, m, y, s, aj, ad, cA, cB⟩ := OwnW.focus u aM ap (by decide) (by decide) (by decide)
  have bv := W.sub (qkl s)
  have a8 := qdu v (qfZ s)
  have a4 := qij (qdu v (qkl s))
  have ak := qdu G (qfZ s)
  have ae := qij (qdu G (qkl s))
  refine ⟨aM, (by first | exact ap | omega | (simp at ap ⊢; omega)), (⟨br, bs, none⟩ : Addr), z, ?_⟩
  try dsimp only
  try rw [bu]
  refine ⟨_, (f.a 0), _, _, _, (f.a 1), _, _, _, (f.a 2), ?_⟩
  obtain ⟨aP, H⟩ := H
  refine (cllA (qbc.con aP i.row i.le m.row m.le)).mono ?_
  rintro _ bw ⟨rfl, U⟩
  have d := d.ext U
  have c := c.ext U
  have j := j.ext U
  have k := k.ext U
  have f := f.ext U
  have i := i.ext U
  have m := m.ext U
  have y := y.ext U
  have n := n.then U
  have bz : ((wrap .i64 ((rd q o) * 4)).toNat) ≤ (List.take ((wrap .i64 ((wrap .i64 ((rd q o) + 1)) * 4)).toNat) ((rd T K).Regs)).length := qbc.cut aP
  have a9 := (m.take ((wrap .i64 ((wrap .i64 ((rd q o) + 1)) * 4)).toNat)).drop (l := ((wrap .i64 ((rd q o) * 4)).toNat)) bz
  refine ⟨(cutA aO ((wrap .i64 ((rd q o) * 4)).toNat) bt 1), (List.drop ((wrap .i64 ((rd q o) * 4)).toNat) (List.take ((wrap .i64 ((wrap .i64 ((rd q o) + 1)) * 4)).toNat) ((rd T K).Regs))).length, (aO - ((wrap .i64 ((rd q o) * 4)).toNat)), rfl, _, (j.a 0), ?_⟩
  apply brc H<;>intro h H
  ·refine ⟨(fun _ => False), _, noM (j.a 1), _, _, _, noM (d.a 2), _, noM (j.a 2), ?_⟩
   obtain ⟨⟨aQ, aR⟩, H⟩ := H
   obtain ⟨bA, bB, bD⟩ := Row.at a9.row aQ aR
   refine ⟨aQ, aR, bA, bB, _, ⟨(fun e => e), (bD 0 _ rfl)⟩, by decide, ?_⟩
   obtain ⟨⟨aS, aq⟩, H⟩ := H
   obtain ⟨bE, bF, bG⟩ := Row.at c.row aS aq
   refine ⟨aS, (by first | exact aq | omega | (simp at aq ⊢; omega)), bE, bF, _, ⟨(fun e => e), (bG 0 _ rfl)⟩, ?_⟩
   obtain ⟨⟨ar, au⟩, H⟩ := H
   obtain ⟨bH, av, cC⟩ := Row.at a9.row ar au
   refine ⟨ar, au, bH, av, ?_⟩
   have d := d.ext (Ext.drew _)
   have j := j.ext (Ext.drew _)
   have f := f.ext (Ext.drew _)
   have i := i.ext (Ext.drew _)
   have m := m.ext (Ext.drew _)
   refine Own.qf3 (hi := ((wrap .i64 ((wrap .i64 ((rd q o) + 1)) * 4)).toNat)) m av ar au 0 [(iv (rd a7 (Int.tmod (rd (List.drop ((wrap .i64 ((rd q o) * 4)).toNat) (List.take ((wrap .i64 ((wrap .i64 ((rd q o) + 1)) * 4)).toNat) ((rd T K).Regs))) F.B) 32)))] (rd a7 (Int.tmod (rd (List.drop ((wrap .i64 ((rd q o) * 4)).toNat) (List.take ((wrap .i64 ((wrap .i64 ((rd q o) + 1)) * 4)).toNat) ((rd T K).Regs))) F.B) 32)) rfl (Nat.le_of_ble_eq_true rfl) rfl (fun cD bI V bJ => ?_)
   obtain ⟨cE, a0, bK⟩ := qft av
   rw [← bK] at V bJ
   have d := d.chg V (fun e => ((m.qa6 d (by decide))) _ a0 e.symm)
   have c := (c.ext (Ext.drew _)).chg V (((a4).symm).left a0)
   have j := j.chg V (fun e => ((m.qa6 j (by decide))) _ a0 e.symm)
   have k := (k.ext (Ext.drew _)).chg V (((ae).symm).left a0)
   have f := f.chg V (fun e => ((m.qa6 f.b (by decide))) _ a0 e.symm)
   have i := i.chg V (((Own.qaw i m (by decide))).left a0)
   have y := (y.ext (Ext.drew _)).chg V (fun e => ad _ e ⟨_, a0, rfl⟩)
   have n := (n.then (Ext.drew _)).chgb V ((bv _ ⟨_, a0, rfl⟩).elim (fun bL => Or.inr (Or.inl bL)) Or.inl)
   have m := bI
   have u := (qeK.back y z ai f i m (by first | rfl | (simp only [bC, wC, List.length_set]; done) | (simp; done) | (simp; omega)) (by first | rfl | (simp only [bC, wC, List.length_set]; done) | (simp; done) | (simp; omega)) (fun _ _ => Nat.zero_le _) (fun _ _ => Nat.zero_le _) (by decide) (by decide) (by decide) aj ad).qlp s
   have v := qdu (qef (qhS z (c.qa6 f.b (by decide))) a8 (Own.qaw i c (by decide)) a4) (qea s)
   have G := qdu (qef (qhS z (k.qa6 f.b (by decide))) ak (Own.qaw i k (by decide)) ae) (qea s)
   obtain ⟨bM, bN, bO⟩ := H
   exact ⟨bM, bN, _, _, _, N, rfl, bO, n, u, (by first | rfl | assumption | omega | (simp; done) | (simp; omega) | (simp; assumption)), W, v, G, c, (by first | rfl | assumption | omega | (simp; done) | (simp; omega) | (simp; assumption)), (by first | exact d | (simp only [bC, wC, List.length_set, ← a3]; exact d)), j, k⟩
  apply brc H<;>intro h H
  ·refine ⟨(fun _ => False), _, _, _, noM (d.a 2), _, noM (j.a 1), ?_⟩
   obtain ⟨⟨aT, aU⟩, H⟩ := H
   obtain ⟨bP, bQ, bR⟩ := Row.at a9.row aT aU
   refine ⟨aT, aU, bP, bQ, _, ⟨(fun e => e), (bR 0 _ rfl)⟩, by decide, _, noM (j.a 2), ?_⟩
   obtain ⟨⟨aV, aW⟩, H⟩ := H
   obtain ⟨bS, bT, bU⟩ := Row.at a9.row aV aW
   refine ⟨aV, aW, bS, bT, _, ⟨(fun e => e), (bU 0 _ rfl)⟩, ?_⟩
   obtain ⟨⟨aw, al⟩, H⟩ := H
   obtain ⟨bV, O, cF⟩ := Row.at c.row aw al
   refine ⟨aw, (by first | exact al | omega | (simp at al ⊢; omega)), bV, O, ?_⟩
   have d := d.ext (Ext.drew _)
   have c := c.ext (Ext.drew _)
   have f := f.ext (Ext.drew _)
   have i := i.ext (Ext.drew _)
   refine Own.stA c O aw al 0 (rd (List.drop ((wrap .i64 ((rd q o) * 4)).toNat) (List.take ((wrap .i64 ((wrap .i64 ((rd q o) + 1)) * 4)).toNat) ((rd T K).Regs))) F.B) (fun cG P4 a1 cH => ?_)
   have d := d.chg a1 (fun e => ((c.qa6 d (by decide))) _ O e.symm)
   have j := (j.ext (Ext.drew _)).chg a1 (fun e => (aC) _ O e.symm)
   have k := (k.ext (Ext.drew _)).chg a1 (((aG).symm).left O)
   have f := f.chg a1 (fun e => ((c.qa6 f.b (by decide))) _ O e.symm)
   have i := i.chg a1 (((Own.qaw i c (by decide))).left O)
   have m := (m.ext (Ext.drew _)).chg a1 ((a4).left O)
   have y := (y.ext (Ext.drew _)).chg a1 (fun e => a8 _ e ⟨_, O, rfl⟩)
   have n := (n.then (Ext.drew _)).chgb a1 (Or.inr (Or.inr (Or.inl ⟨_, O, rfl⟩)))
   have c := P4
   have u := ((qeK.back y z ai f i m (by first | rfl | (simp only [bC, wC, List.length_set]; done) | (simp; done) | (simp; omega)) (by first | rfl | (simp only [bC, wC, List.length_set]; done) | (simp; done) | (simp; omega)) (fun _ _ => Nat.zero_le _) (fun _ _ => Nat.zero_le _) (by decide) (by decide) (by decide) aj ad).qlp s).unset
   have v := qdu (qef (qhS z (c.qa6 f.b (by decide))) a8 (Own.qaw i c (by decide)) a4) (qea s)
   have G := qdu (qef (qhS z (k.qa6 f.b (by decide))) ak (Own.qaw i k (by decide)) ae) (qea s)
   obtain ⟨bW, bX, bY⟩ := H
   exact ⟨bW, bX, _, _, _, N, rfl, bY, n, u, (by first | rfl | assumption | omega | (simp; done) | (simp; omega) | (simp; assumption)), W, v, G, c, (by first | rfl | assumption | omega | (simp; done) | (simp; omega) | (simp; assumption)), (by first | exact d | (simp only [bC, wC, List.length_set, ← a3]; exact d)), j, k⟩
  apply brc H<;>intro h H
  ·refine ⟨_, (j.a 1), ?_⟩
   obtain ⟨⟨aX, aY⟩, H⟩ := H
   obtain ⟨bZ, c0, c1⟩ := Row.at a9.row aX aY
   refine ⟨aX, aY, bZ, c0, _, (c1 0 _ rfl), by decide, (fun _ => False), ?_⟩
   have hBz := n
   have Z4 := c
   refine ⟨_, _, _, noM (d.a 2), _, _, _, noM (d.a 2), ?_⟩
   obtain ⟨⟨aZ, ax⟩, H⟩ := H
   obtain ⟨c2, c3, c4⟩ := Row.at c.row aZ ax
   refine ⟨aZ, (by first | exact ax | omega | (simp at ax ⊢; omega)), c2, c3, _, ⟨(fun e => e), (c4 0 _ rfl)⟩, _, noM (j.a 2), ?_⟩
   obtain ⟨⟨b0, b1⟩, H⟩ := H
   obtain ⟨c5, c6, c7⟩ := Row.at a9.row b0 b1
   refine ⟨b0, b1, c5, c6, _, ⟨(fun e => e), (c7 0 _ rfl)⟩, ?_⟩
   have d := d.ext (Ext.drew _)
   have c := c.ext (Ext.drew _)
   have j := j.ext (Ext.drew _)
   have k := k.ext (Ext.drew _)
   have f := f.ext (Ext.drew _)
   have i := i.ext (Ext.drew _)
   have m := m.ext (Ext.drew _)
   have y := y.ext (Ext.drew _)
   have n := n.then (Ext.drew _)
   have ay := (Chg.refl (fun _ => False) bw).then (Ext.drew _)
   obtain ⟨b2, c8, H⟩ := qaf H
   refine (qbG.con c8 ).mono ?_
   rintro _ cI ⟨rfl, P⟩
   have d := d.ext P
   have c := c.ext P
   have f := f.ext P
   have i := i.ext P
   have ay := ay.then P
   refine ⟨b2, rfl, qaj ay, ?_⟩
   obtain ⟨⟨az, am⟩, H⟩ := H
   obtain ⟨c9, Q, cJ⟩ := Row.at Z4.row az am
   refine ⟨az, (by first | exact am | omega | (simp at am ⊢; omega)), c9, Q, ?_⟩
   refine Own.stA c Q az am 0 b2 (fun cK P4 a2 cL => ?_)
   have d := d.chg a2 (fun e => ((c.qa6 d (by decide))) _ Q e.symm)
   have j := (j.ext P).chg a2 (fun e => (aC) _ Q e.symm)
   have k := (k.ext P).chg a2 (((aG).symm).left Q)
   have f := f.chg a2 (fun e => ((c.qa6 f.b (by decide))) _ Q e.symm)
   have i := i.chg a2 (((Own.qaw i c (by decide))).left Q)
   have m := (m.ext P).chg a2 ((a4).left Q)
   have y := (y.ext P).chg a2 (fun e => a8 _ e ⟨_, Q, rfl⟩)
   have n := (n.then P).chgb a2 (Or.inr (Or.inr (Or.inl ⟨_, Q, rfl⟩)))
   have c := P4
   have u := ((qeK.back y z ai f i m (by first | rfl | (simp only [bC, wC, List.length_set]; done) | (simp; done) | (simp; omega)) (by first | rfl | (simp only [bC, wC, List.length_set]; done) | (simp; done) | (simp; omega)) (fun _ _ => Nat.zero_le _) (fun _ _ => Nat.zero_le _) (by decide) (by decide) (by decide) aj ad).qlp s).unset
   have v := qdu (qef (qhS z (c.qa6 f.b (by decide))) a8 (Own.qaw i c (by decide)) a4) (qea s)
   have G := qdu (qef (qhS z (k.qa6 f.b (by decide))) ak (Own.qaw i k (by decide)) ae) (qea s)
   obtain ⟨ca, cb, cc⟩ := H
   exact ⟨ca, cb, _, _, _, N, rfl, cc, n, u, (by first | rfl | assumption | omega | (simp; done) | (simp; omega) | (simp; assumption)), W, v, G, c, (by first | rfl | assumption | omega | (simp; done) | (simp; omega) | (simp; assumption)), (by first | exact d | (simp only [bC, wC, List.length_set, ← a3]; exact d)), j, k⟩
  have u := ((qeK.back y z ai f i m (by first | rfl | (simp only [bC, wC, List.length_set]; done) | (simp; done) | (simp; omega)) (by first | rfl | (simp only [bC, wC, List.length_set]; done) | (simp; done) | (simp; omega)) (fun _ _ => Nat.zero_le _) (fun _ _ => Nat.zero_le _) (by decide) (by decide) (by decide) aj ad).qlp s).unset
  have v := qdu (qef (qhS z (c.qa6 f.b (by decide))) a8 (Own.qaw i c (by decide)) a4) (qea s)
  have G := qdu (qef (qhS z (k.qa6 f.b (by decide))) ak (Own.qaw i k (by decide)) ae) (qea s)
  obtain ⟨cd, ce, cf⟩ := H
  exact ⟨cd, ce, _, _, _, N, rfl, cf, n, u, (by first | rfl | assumption | omega | (simp; done) | (simp; omega) | (simp; assumption)), W, v, G, c, (by first | rfl | assumption | omega | (simp; done) | (simp; omega) | (simp; assumption)), (by first | exact d | (simp only [bC, wC, List.length_set, ← a3]; exact d)), j, k⟩
 cases hr.trans H.symm
 exact ⟨t, aa, N, rfl, (by first | exact d | (simp only [bC, wC, List.length_set, ← aJ, ← a3]; exact d)), rfl, (u.mono (Nat.zero_le _)), W, (by first | exact c | (simp only [bC, wC, List.length_set, ← aJ, ← a3]; exact c)), (by first | (simp only [bC, wC, List.length_set]; done) | (simp only [bC, wC, List.length_set, ← a3]; done) | (simp; done) | (simp; omega) | omega), n⟩
def qba.vc (a : Addr) (c : Int) (w : World) (K : VK) : Prop :=
  ldS w (a.add 0) fun H I J => ldS w (a.add 1) fun L M N => ldS w (a.add 2) fun O P Q => ldI w (a.add 3) fun R => ldI w (a.add 4) fun S => Cl 68 #[(.agg (vB H I J L M N O P Q R S)), (iv c)] w fun T U => (∃ V : Value, (∃ (m : Int), True ∧ ∃ (n : Int), True ∧ ∃ (o : Int), True ∧ ∃ (p : Int), True ∧ V = (.agg #[(iv m), (iv n), (iv o), (iv p)]) ∧ ∃ W : Value, (∃ (s : Bool), W = (.bool s) ∧ T = (.tuple #[(.agg #[(iv m), (iv n), (iv o), (iv p)]), (.bool s)]) ∧ newK U (.cells #[(iv 0), (iv 0), (iv 0), (iv 0)] 84) fun d X => qae (bx d) [(iv m), (iv n), (iv o), (iv p)] 0 X fun h => qgl (σ := Unit) (fun t => ldI h ((bx d).add 0) fun Y => ldI h ((bx d).add 1) fun Z => ldI h ((bx d).add 2) fun a0 => ldI h ((bx d).add 3) fun a1 => Cl 121 #[(.agg #[(iv Y), (iv Z), (iv a0), (iv a1)])] h fun a2 b => (∃ (u : Bool), a2 = (.bool u) ∧ qa1 u ((∃ v : Nat → Prop, ldSM v b (a.add 1) 0 fun a3 a4 aX => (idx c a4 a3 fun a5 => ldSM v b (a.add 0) 0 fun a6 a7 a8 => Cl 130 #[(.pointer (some (a5.add ((c.toNat) * 3)))), (sv a6 a7 a8)] b.drew fun a9 aa => (∃ (ab : Bool), a9 = (.bool ab) ∧ t () aa)))) (qgl (σ := Unit) (fun x => ldI b (((bx d).add 0).add 0) fun ac => qa1 (ac == 16) (((0 : Int) ≤ c ∧ ((∃ (y : Int), b.drew.cell? ((a.add 3).add 0) = some (iv y) ∧ ((qae (a.add 3) [(iv (qgD .i64 y (wrap .i64 (1 * 2 ^ (min (c.toNat) (IntKind.bits .i64))))))] 0 b.drew fun ad => x () ad) ∧ True)) ∧ True))) (ldI b ((bx d).add 0) fun ae => ldI b ((bx d).add 1) fun af => ldI b ((bx d).add 2) fun ag => ldI b ((bx d).add 3) fun ah => Cl 131 #[(.pointer (some a)), (iv c), (.agg #[(iv ae), (iv af), (iv ag), (iv ah)])] b fun ai aj => (ai = (.tuple #[]) ∧ x () aj))) fun aY j => ldS j ((a.add 1).add 0) fun ak al aZ => (idx c al ak fun am => ldS j (((am.add ((c.toNat) * 3)).add 1).add 0) fun z f b0 => (idx (wrap .i64 (((f : Nat) : Int) - 1)) f z fun an => ldI j (((an.add (((wrap .i64 (((f : Nat) : Int) - 1)).toNat) * 3)).add 0).add 0) fun ao => (idx (wrap .i64 (((f : Nat) : Int) - 1)) f z fun ap => qae ((ap.add (((wrap .i64 (((f : Nat) : Int) - 1)).toNat) * 3)).add 0) [(iv (wrap .i64 (ao + 1)))] 0 j fun q => (∃ A : Nat → Prop, ldSM A q (a.add 1) 0 fun aq ar b1 => (idx c ar aq fun au => ldSM A q (a.add 0) 0 fun b2 av b3 => Cl 132 #[(.pointer (some (au.add ((c.toNat) * 3)))), (iv ((av : Nat) : Int))] q.drew fun aw ax => (aw = (.tuple #[]) ∧ t () ax))))))))) fun b4 k => ldI k ((a.add 3).add 0) fun ay => qa1 (ay == 0) (K (.bool true) k) (ldS k ((a.add 1).add 0) fun az B b5 => qdS (σ := Int × Unit) (fun e i C => qa1 (decide (e.1 < ((B : Nat) : Int))) ((idx e.1 B az fun r => ldI i ((r.add ((e.1.toNat) * 3)).add 0) fun aA => ldS i ((r.add ((e.1.toNat) * 3)).add 1) fun aB aC aD => ldS i ((r.add ((e.1.toNat) * 3)).add 2) fun aE aF aG => newK i (.cells #[(iv 0), (sv none 0 0), (sv none 0 0)] 52) fun D aH => qae (bx D) [(iv aA), (sv aB aC aD), (sv aE aF aG)] 0 aH fun g => ldS g (a.add 0) fun aI aJ aK => ldS g (a.add 1) fun aL aM aN => ldS g (a.add 2) fun aO aP aQ => ldI g (a.add 3) fun aR => ldI g (a.add 4) fun aS => Cl 65 #[(.agg (vB aI aJ aK aL aM aN aO aP aQ aR aS)), (iv e.1)] g fun aT l => (∃ (E : Bool), aT = (.bool E) ∧ qa1 (!E) (ldS l (((bx D).add 1).add 0) fun b6 aU b7 => qa1 (decide (((aU : Nat) : Int) > 0)) (K (.bool true) l) (C ((wrap .i64 (e.1 + 1)), ()) l)) (C ((wrap .i64 (e.1 + 1)), ()) l)))) (qae (a.add 3) [(iv 0)] 0 i fun F => ldI F ((a.add 4).add 0) fun aV => qae (a.add 4) [(iv (wrap .i64 (aV + 1)))] 0 F fun G => ldI G ((a.add 4).add 0) fun aW => K (.bool (decide (aW ≤ 100000))) G)) (0, ()) k))))

def qba.ann : Ann := (.seq .l (.seq .l (.cut [] (.seq .l (.two .l (.cut [] (.seq .l (.two .each .l)) (.seq .l (.seq .l .l))))) (.seq (.seq .l (.two (.seq .l .l) .l)) (.seq (.seq .l (.one (.loop [(87, .int .i64)] (.seq .l (.seq (.two .l .l) (.seq (.one (.seq .l (.seq .l (.two (.seq .l .l) .l)))) .l)))))) (.seq .l (.seq .l (.seq .l .l))))))))

theorem qba.con {j : D.Block} {x Q ab y : Nat} {K t m : OA} {z : Nat → Prop} {G : Int} {r : Bool × D.Block} {w : World} (hp : M.qeo j G) (hr : r = M.qba j G) (c : Blk w x 33 (bC K Q t ab m y j)) (X : Row el84 w K j.Code) (an : j.Code.length ≤ Q) (n : OwnW 52 el91 el3 w 0 z t ab j.Warps) (e : Own el3 w 0 m y j.Memory) (Y : Dis (InW t z) (InB m)) (L : j.Code ≠ [] → ∀ g, InB K g → ¬ (fun l => InW t z l ∨ InB m l ∨ l = x) g) :
    Cl 70 #[(.pointer (some (bx x))), (iv G)] w (fun v_ p => ∃ (aF : OA) (aU : Nat) (aV : Nat → Prop), v_ = (.bool r.1) ∧ Blk p x 33 #[(sv K r.2.Code.length Q), (sv aF r.2.Warps.length aU), (sv m j.Memory.length y), (iv r.2.Waiting), (iv r.2.Phase)] ∧ r.2.Code = j.Code ∧ OwnW 52 el91 el3 p 0 aV aF aU r.2.Warps ∧ MovW w (InW t z) (InW aF aV) ∧ Own el3 p 0 m y r.2.Memory ∧ r.2.Memory.length = j.Memory.length ∧ Chg (fun l => InW t z l ∨ InB m l ∨ l = x) w p) := by
 have H := wp.qba.math j G hp
 have i := Chg.refl (fun l => InW t z l ∨ InB m l ∨ l = x) w
 refine begK mixed Tryz.f70 ann (vc (bx x) G) ?_
 unfold vc
 unfold wp.qba at H
 have R := MovW.refl w (InW t z)
 refine ⟨_, _, _, (c.a 0), _, _, _, (c.a 1), _, _, _, (c.a 2), _, (c.a 3), _, (c.a 4), ?_⟩
 obtain ⟨bk, H⟩ := H
 obtain ⟨U, bl, H⟩ := qaf H
 refine (qan.con bk bl (X.chgS i L) an n.row n.le e.row e.le).mono ?_
 rintro _ d2 ⟨rfl, ao⟩
 have c := c.ext ao
 have n := n.ext ao
 have e := e.ext ao
 have i := i.then ao
 refine ⟨(.agg (iC U.1)), U.1.Op, trivial, U.1.A, trivial, U.1.B, trivial, U.1.C, trivial, rfl, (.bool U.2), U.2, rfl, rfl, ?_⟩
 refine qbx (fun d3 d4 L5 P5 ap => ?_)
 have bm := c.ne L5
 have bn := n.qeP L5
 have bo := e.qbI L5
 have e := e.ext ap
 have E := P5
 have L5 := Nat.le_trans i.size L5
 refine qd9 E (o := 0) (cs' := (iC U.1)) rfl rfl (Nat.le_of_ble_eq_true rfl) rfl (fun d5 E aq => ?_)
 have c := (c.ext ap).chg aq bm
 have n := (n.ext ap).chg aq bn
 have aG := e.chg aq bo
 have e := aG
 have i := (i.then ap).chgb aq (Or.inl L5)
 obtain ⟨bp, bq, H⟩ := qdJ H
 refine ⟨fun z_ p => ∃ (J : List D.Warp) (ar a4 : Int) (ac : List Int) (I : OA) (N : Nat) (V : Nat → Prop), z_ = (()) ∧ bp (J, ar, a4, ac, ()) ∧ Chg (fun l => InW t z l ∨ InB m l ∨ l = x) w p ∧ Blk p x 33 #[(sv K j.Code.length Q), (sv I J.length N), (sv m j.Memory.length y), (iv ar), (iv a4)] ∧ OwnW 52 el91 el3 p 0 V I N J ∧ MovW w (InW t z) (InW I V) ∧ Own el3 p 0 m y ac ∧ j.Memory.length = ac.length ∧ Dis (InW I V) (InB m), ?_, ?_⟩
 ·refine ⟨_, (E.a 0), _, (E.a 1), _, (E.a 2), _, (E.a 3), ?_⟩
  obtain ⟨br, bs, H⟩ := qaf H
  refine (qbU.con bs ).mono ?_
  rintro _ d6 ⟨rfl, ad⟩
  have c := c.ext ad
  have n := n.ext ad
  have e := e.ext ad
  have E := E.ext ad
  have i := i.then ad
  refine ⟨br, rfl, ?_⟩
  apply brc H<;>intro h H
  ·obtain ⟨⟨bt, bu⟩, H⟩ := H
   obtain ⟨bv, d7, bw, d8, d9, da, db, dc, bz, ae, bA, bB, S, af, au, Z, ag, aW, aX, bD, dd⟩ := OwnW.focus n bt bu (by decide) (by decide) (by decide)
   have aH := R.sub (qnT ae)
   have aI := R.sub (qnR ag)
   have aJ := R.sub (qkl ag)
   have bE := R.sub (qfZ ag)
   have bF := qdu Y (qfZ ag)
   have aY := qij (qdu Y (qkl ag))
   refine ⟨(fun _ => False), _, _, _, noM (c.a 1), ?_⟩
   obtain ⟨⟨bG, aZ⟩, H⟩ := H
   refine ⟨bG, (by first | exact aZ | omega | (simp at aZ ⊢; omega)), (⟨bv, bw, none⟩ : Addr), ae, ?_⟩
   try dsimp only
   try rw [bA]
   refine ⟨_, _, _, noM (c.a 0), ?_⟩
   have c := c.ext (Ext.drew _)
   have e := e.ext (Ext.drew _)
   have S := S.ext (Ext.drew _)
   have af := af.ext (Ext.drew _)
   have au := au.ext (Ext.drew _)
   have Z := Z.ext (Ext.drew _)
   have i := i.then (Ext.drew _)
   obtain ⟨bH, H⟩ := H
   obtain ⟨bI, bJ, H⟩ := qaf H
   refine (qaZ.con bH bJ (by first | exact S | (simp only [bC, wC, List.length_set]; exact S)) (af.mono (Nat.zero_le _)) (au.mono (Nat.zero_le _)) (X.chgS i L) an (fun O => (fun g d => (fun f => f.elim ((fun g d f => ((aI _ f).elim (fun q => Or.inr (Or.inl q)) Or.inl).elim (fun ah => Nat.not_le.2 (X.old O g d) ah) (L O g d)) g d) (fun f => f.elim ((fun g d f => ((aJ _ f).elim (fun q => Or.inr (Or.inl q)) Or.inl).elim (fun ah => Nat.not_le.2 (X.old O g d) ah) (L O g d)) g d) ((fun g d f => ((aH _ f).elim (fun q => Or.inr (Or.inl q)) Or.inl).elim (fun ah => Nat.not_le.2 (X.old O g d) ah) (L O g d)) g d)))))).mono ?_
   rintro _ de ⟨bK, df, bL, dg, rfl, bM, bN, b0, bO, aK, av⟩
   have bP := aI.mov b0 i.size
   have bQ := Z.qkJ aW b0
   have bR := aJ.mov aK i.size
   have bS := qd4.mov (aY).symm aK e
   have bT := Z.qkJ aX aK
   have c := c.chgS av (fun f => f.elim ((af.qa6 c (by decide))).inb (fun f => f.elim ((au.qa6 c (by decide))).inb ((Blk.qlH c S.b (by decide)))))
   have e := e.chgS av (fun g d => (fun f => f.elim (((Own.qaw e af (by decide))).inb g d) (fun f => f.elim (((aY).symm).inb g d) ((qcG (e.qa6 S.b (by decide))) g d))))
   have Z := Z.kept av (fun g d => (fun f => f.elim (aW g d) (fun f => f.elim (aX g d) ((qn2 bD) g d))))
   have i := i.chg av (fun g => (fun f => f.elim ((fun g d => ((aI _ d).elim (fun q => Or.inr (Or.inl q)) Or.inl)) g) (fun f => f.elim ((fun g d => ((aJ _ d).elim (fun q => Or.inr (Or.inl q)) Or.inl)) g) ((fun g d => ((aH _ d).elim (fun q => Or.inr (Or.inl q)) Or.inl)) g))))
   have S := bM
   have b1 := bN
   have bU := bO
   refine ⟨bI.1, rfl, ?_⟩
   have n := (qeK.back Z ae bB S b1 bU rfl rfl (fun _ _ => Nat.zero_le _) (fun _ _ => Nat.zero_le _) (by decide) (by decide) (by decide) bQ bT)
   have Y := qef (qhS ae (e.qa6 S.b (by decide))) bF (Own.qaw b1 e (by decide)) (bS).symm
   have R := MovW.back (aH.sub (fun _ d => qm0 ae d)) bE bP bR
   exact ⟨_, _, _, _, t, ab, (fun k => bz k ∨ InB bK k ∨ InB bL k), rfl, H, i, (by first | exact c | (simp only [bC, wC, List.length_set]; exact c)), n, R, e, (by first | rfl | assumption | omega | (simp; done) | (simp; omega) | (simp; assumption)), Y⟩
  obtain ⟨bV, bW, H⟩ := qdJ H
  refine ⟨fun z_ p => ∃ (P : List D.Warp) (aw ax : Int) (ai : List Int) (a5 : OA) (ay : Nat) (az : Nat → Prop), z_ = (()) ∧ bV (P, aw, ax, ai, ()) ∧ Chg (fun l => InW t z l ∨ InB m l ∨ l = x) w p ∧ Blk p x 33 #[(sv K j.Code.length Q), (sv a5 P.length ay), (sv m j.Memory.length y), (iv aw), (iv ax)] ∧ OwnW 52 el91 el3 p 0 az a5 ay P ∧ MovW w (InW t z) (InW a5 az) ∧ Own el3 p 0 m y ai ∧ j.Memory.length = ai.length ∧ Dis (InW a5 az) (InB m), ?_, ?_⟩
  ·refine ⟨_, (E.a 0), ?_⟩
   apply brc H<;>intro h H
   ·have c := c.ext (Ext.drew _)
    have n := n.ext (Ext.drew _)
    have e := e.ext (Ext.drew _)
    obtain ⟨bX, H⟩ := H
    refine ⟨bX, ?_⟩
    refine qcn ?_
    refine ⟨_, (c.a 3), ?_⟩
    refine qcn ?_
    refine stB c 3 #[(sv K j.Code.length Q), (sv t j.Warps.length ab), (sv m j.Memory.length y), (iv (qgD .i64 j.Waiting (wrap .i64 (1 * 2 ^ (min (G.toNat) (IntKind.bits .i64)))))), (iv j.Phase)] (fun dh P1 aL => ?_)
    have n := n.chg aL (n.qes c (by decide) (by decide) (by decide))
    have e := e.chg aL (e.qa6 c (by decide))
    have i := (i.then (Ext.drew _)).chgb aL (Or.inr (Or.inr (Or.inr rfl)))
    have c := P1
    exact ⟨_, _, _, _, t, ab, z, rfl, H, i, c, n, R, e, (by first | rfl | assumption | omega | (simp; done) | (simp; omega) | (simp; assumption)), Y⟩
   refine ⟨_, (E.a 0), _, (E.a 1), _, (E.a 2), _, (E.a 3), ?_⟩
   obtain ⟨bY, H⟩ := H
   obtain ⟨di, bZ, H⟩ := qaf H
   refine (qby.con bY bZ c (X.chgS i L) an (n.mono (Nat.zero_le _)) (e.mono (Nat.zero_le _)) Y (fun O => (fun g d => (fun f => f.elim ((fun g d f => L O g d (Or.inl f)) g d) (fun f => f.elim ((fun g d f => L O g d (Or.inr (Or.inl f))) g d) ((fun g d f => L O g d (Or.inr (Or.inr f))) g d)))))).mono ?_
   rintro _ dj ⟨c0, c1, c2, rfl, Q1, c3, c4, b2, Q4, b3, c5⟩
   simp only [bC, wC, c3] at Q1
   try dsimp only at b3
   have c6 := R.trans b2 i.size
   have c7 := b2.dis Y e.oldA
   have i := i.chg c5 (fun g => (fun f => f.elim ((fun g d => ((R _ d).elim (fun q => Or.inr (Or.inl q)) Or.inl)) g) (fun f => f.elim ((fun g d => (Or.inr (Or.inr (Or.inl d)))) g) ((fun g d => Or.inr (Or.inr (Or.inr d))) g))))
   have c := Q1
   have e := Q4
   have c8 := c4
   refine ⟨rfl, ?_⟩
   exact ⟨_, _, _, _, c0, c1, c2, rfl, H, i, (by first | exact c | (simp only [bC, wC, List.length_set, b3]; exact c)), c8, c6, e, (by first | rfl | assumption | omega | (simp; done) | (simp; omega) | (simp; assumption)), c7⟩
  rintro _ dk ⟨P, aw, ax, ai, a5, ay, az, rfl, H, i, c, aM, a6, e, c9, aA⟩
  have H := bW _ H
  try dsimp only at H ⊢
  refine ⟨_, _, _, (c.a 1), ?_⟩
  obtain ⟨⟨b4, b5⟩, H⟩ := H
  obtain ⟨b6, dl, b7, dm, dn, ca, dp, dq, cb, a7, b8, cc, u, F, v, a8, aj, aN, cd, ce, dr⟩ := OwnW.focus aM b4 b5 (by decide) (by decide) (by decide)
  have b9 := a6.sub (qnT a7)
  have aO := a6.sub (qnR aj)
  have cf := a6.sub (qkl aj)
  have cg := a6.sub (qfZ aj)
  have ch := qdu aA (qfZ aj)
  have ci := qij (qdu aA (qkl aj))
  refine ⟨b4, b5, (⟨b6, b7, none⟩ : Addr), a7, ?_⟩
  try dsimp only
  try rw [b8]
  refine ⟨_, _, _, (u.a 1), ?_⟩
  obtain ⟨⟨ba, aP⟩, H⟩ := H
  obtain ⟨cj, ck, cl⟩ := Row.at F.row ba aP
  refine ⟨ba, (by first | exact aP | omega | (simp at aP ⊢; omega)), cj, ck, _, (cl 0 _ rfl), ?_⟩
  obtain ⟨⟨aQ, aB⟩, H⟩ := H
  obtain ⟨cm, W, ds⟩ := Row.at F.row aQ aB
  refine ⟨aQ, (by first | exact aB | omega | (simp at aB ⊢; omega)), cm, W, ?_⟩
  refine Own.stA F W aQ aB 0 (⟨(wrap .i64 ((rd ((rd P G).Frames) (wrap .i64 (((rd P G).Frames.length : Int) - 1))).Pc + 1)), (rd ((rd P G).Frames) (wrap .i64 (((rd P G).Frames.length : Int) - 1))).Stop, (rd ((rd P G).Frames) (wrap .i64 (((rd P G).Frames.length : Int) - 1))).Mask⟩ : D.Frame) (fun dt cn a9 du => ?_)
  have c := c.chg a9 (fun d => ((F.qa6 c (by decide))) _ W d.symm)
  have e := e.chg a9 (((Own.qaw e F (by decide))).left W)
  have u := u.chg a9 (fun d => ((F.qa6 u.b (by decide))) _ W d.symm)
  have v := v.chg a9 (((Own.qaw v F (by decide))).left W)
  refine ⟨(fun _ => False), _, _, _, noM (c.a 1), ?_⟩
  obtain ⟨⟨co, bb⟩, H⟩ := H
  refine ⟨co, (by first | exact bb | omega | (simp at bb ⊢; omega)), (⟨b6, b7, none⟩ : Addr), a7, ?_⟩
  try dsimp only
  try rw [b8]
  refine ⟨_, _, _, noM (c.a 0), ?_⟩
  have c := c.ext (Ext.drew _)
  have e := e.ext (Ext.drew _)
  have u := u.ext (Ext.drew _)
  have F := cn.ext (Ext.drew _)
  have v := v.ext (Ext.drew _)
  have a8 := (a8.chg a9 (fun d => aN _ d ⟨_, W, rfl⟩)).ext (Ext.drew _)
  have i := (i.chgb a9 ((aO _ ⟨_, W, rfl⟩).elim (fun q => Or.inr (Or.inl q)) Or.inl)).then (Ext.drew _)
  obtain ⟨cp, H⟩ := H
  obtain ⟨dv, cq, H⟩ := qaf H
  refine (qbd.con cp cq (by first | exact u | (simp only [bC, wC, List.length_set]; exact u)) (F.mono (Nat.zero_le _)) v.row v.le (fun _ => (fun g d => (fun f => f.elim (((Own.qaw v F (by decide))).inb g d) ((qcG (v.qa6 u.b (by decide))) g d))))).mono ?_
  rintro _ dw ⟨cr, dx, rfl, bc, cs, bd, ct, ak⟩
  simp only [bC, wC, ct] at bc
  have cu := aO.mov bd i.size
  have cv := a8.qkJ aN bd
  have c := c.chgS ak (fun f => f.elim ((F.qa6 c (by decide))).inb ((Blk.qlH c u.b (by decide))))
  have e := e.chgS ak (fun g d => (fun f => f.elim (((Own.qaw e F (by decide))).inb g d) ((qcG (e.qa6 u.b (by decide))) g d)))
  have v := v.chgS ak (fun g d => (fun f => f.elim (((Own.qaw v F (by decide))).inb g d) ((qcG (v.qa6 u.b (by decide))) g d)))
  have a8 := a8.kept ak (fun g d => (fun f => f.elim (aN g d) ((qn2 ce) g d)))
  have i := i.chg ak (fun g => (fun f => f.elim ((fun g d => ((aO _ d).elim (fun q => Or.inr (Or.inl q)) Or.inl)) g) ((fun g d => ((b9 _ d).elim (fun q => Or.inr (Or.inl q)) Or.inl)) g)))
  have u := bc
  have be := cs
  refine ⟨rfl, ?_⟩
  have aM := (qeK.back a8 a7 cc u be v rfl (by first | rfl | (simp only [bC, wC, List.length_set]; done) | (simp; done) | (simp; omega)) (fun _ _ => Nat.zero_le _) (fun _ _ => Nat.zero_le _) (by decide) (by decide) (by decide) cv cd)
  have aA := qef (qhS a7 (e.qa6 u.b (by decide))) ch (Own.qaw be e (by decide)) ci
  have a6 := MovW.back (b9.sub (fun _ d => qm0 a7 d)) cg cu cf
  exact ⟨_, aw, ax, ai, a5, ay, (fun k => cb k ∨ InB cr k ∨ InB ca k), rfl, H, i, (by first | exact c | (simp only [bC, wC, List.length_set, ← c9]; exact c)), aM, a6, e, (by first | rfl | assumption | omega | (simp; done) | (simp; omega) | (simp; assumption)), aA⟩
 rintro _ dy ⟨J, ar, a4, ac, I, N, V, rfl, H, i, c, s, aR, e, a0, dz⟩
 have H := bq _ H
 try dsimp only at H ⊢
 refine ⟨_, (c.a 3), ?_⟩
 apply brc H<;>intro h H
 ·cases hr.trans H.symm
  exact ⟨I, N, V, rfl, c, rfl, (s.mono (Nat.zero_le _)), aR, e, (by first | (simp only [bC, wC, List.length_set]; done) | (simp only [bC, wC, List.length_set, ← a0]; done) | (simp; done) | (simp; omega) | omega), i⟩
 refine ⟨_, _, _, (c.a 1), ?_⟩
 obtain ⟨cw, ⟨cx, cy⟩, bf⟩ := H
 refine ⟨fun m_ z_ p => ∃ (aa : Int), z_ = (aa, ()) ∧ cw m_ (aa, ()) ∧ Chg (fun l => InW t z l ∨ InB m l ∨ l = x) w p ∧ Blk p x 33 #[(sv K j.Code.length Q), (sv I J.length N), (sv m j.Memory.length y), (iv ar), (iv a4)] ∧ Own el3 p 0 m y ac ∧ OwnW 52 el91 el3 p 0 V I N J, ⟨cx, 0, rfl, cy, i, (by first | exact c | (simp only [bC, wC, List.length_set, ← a0]; exact c)), e, s⟩, ?_⟩
 rintro cz _ dA ⟨aa, rfl, bg, i, c, e, s⟩
 have H := bf cz _ bg
 clear bf bg
 try dsimp only at H ⊢
 apply brc H<;>intro h H
 ·obtain ⟨⟨bh, bi⟩, H⟩ := H
  obtain ⟨cA, dB, cB, cC, cD, cE, cF, dC, dD, bj, cG, cH, a1, aC, aD, aE, cI, cJ, cK, dE, dF⟩ := OwnW.focus s bh bi (by decide) (by decide) (by decide)
  refine ⟨bh, bi, (⟨cA, cB, none⟩ : Addr), bj, ?_⟩
  try dsimp only
  try rw [cG]
  refine ⟨_, (a1.a 0), _, _, _, (a1.a 1), _, _, _, (a1.a 2), ?_⟩
  refine qbx (fun dG dH T cL a2 => ?_)
  have cM := c.ne T
  have cN := e.qbI T
  have cO := a1.ne T
  have cP := aC.qbI T
  have cQ := aD.qbI T
  have cR := aE.qeP T
  have al := cL
  have T := Nat.le_trans i.size T
  refine qd9 al (o := 0) (cs' := #[(iv ((rd J aa).Number)), (sv cC ((rd J aa).Frames.length) cD), (sv cE ((rd J aa).Regs.length) cF)]) rfl rfl (Nat.le_of_ble_eq_true rfl) rfl (fun dI al a3 => ?_)
  have c := (c.ext a2).chg a3 cM
  have e := (e.ext a2).chg a3 cN
  have a1 := (a1.ext a2).chg a3 cO
  have aC := (aC.ext a2).chg a3 cP
  have aD := (aD.ext a2).chg a3 cQ
  have aE := (aE.ext a2).chg a3 cR
  have i := (i.then a2).chgb a3 (Or.inl T)
  refine ⟨_, _, _, (c.a 0), _, _, _, (c.a 1), _, _, _, (c.a 2), _, (c.a 3), _, (c.a 4), ?_⟩
  have s := ((qeK.back aE bj cH a1 aC aD (by first | rfl | (simp only [bC, wC, List.length_set]; done) | (simp; done) | (simp; omega)) (by first | rfl | (simp only [bC, wC, List.length_set]; done) | (simp; done) | (simp; omega)) (fun _ _ => Nat.zero_le _) (fun _ _ => Nat.zero_le _) (by decide) (by decide) (by decide) cJ cK).qlp cI).unset
  obtain ⟨cS, H⟩ := H
  obtain ⟨cT, cU, H⟩ := qaf H
  refine (qho (by first | (simp only [bC, wC, List.length_set, ← a0]; done) | (simp; done)) (qbi.con cS cU (X.chgS i L) an s.row s.le e.row e.le)).mono ?_
  rintro _ dJ ⟨rfl, am⟩
  have c := c.ext am
  have e := e.ext am
  have al := al.ext am
  have s := s.ext am
  have i := i.then am
  refine ⟨cT, rfl, ?_⟩
  apply brc H<;>intro h H
  ·refine ⟨_, _, _, (al.a 1), ?_⟩
   apply brc H<;>intro h H
   ·cases hr.trans H.symm
    exact ⟨I, N, V, rfl, c, rfl, (s.mono (Nat.zero_le _)), aR, e, (by first | (simp only [bC, wC, List.length_set]; done) | (simp only [bC, wC, List.length_set, ← a0]; done) | (simp; done) | (simp; omega) | omega), i⟩
   obtain ⟨cV, cW, cX⟩ := H
   exact ⟨cV, cW, _, rfl, cX, i, (by first | exact c | (simp only [bC, wC, List.length_set, ← a0]; exact c)), e, s⟩
  obtain ⟨cY, cZ, d0⟩ := H
  exact ⟨cY, cZ, _, rfl, d0, i, (by first | exact c | (simp only [bC, wC, List.length_set, ← a0]; exact c)), e, s⟩
 refine stB c 3 #[(sv K j.Code.length Q), (sv I J.length N), (sv m j.Memory.length y), (iv 0), (iv a4)] (fun dK P1 aS => ?_)
 have aG := e.chg aS (e.qa6 c (by decide))
 have d1 := s.chg aS (s.qes c (by decide) (by decide) (by decide))
 have e := aG
 have s := d1
 have c := P1
 refine ⟨_, (c.a 4), ?_⟩
 refine stB c 4 #[(sv K j.Code.length Q), (sv I J.length N), (sv m j.Memory.length y), (iv 0), (iv (wrap .i64 (a4 + 1)))] (fun dL P1 aT => ?_)
 have e := e.chg aT (e.qa6 c (by decide))
 have s := s.chg aT (s.qes c (by decide) (by decide) (by decide))
 have i := (i.chgb aS (Or.inr (Or.inr (Or.inr rfl)))).chgb aT (Or.inr (Or.inr (Or.inr rfl)))
 have c := P1
 refine ⟨_, (c.a 4), ?_⟩
 cases hr.trans H.symm
 exact ⟨I, N, V, rfl, c, rfl, (s.mono (Nat.zero_le _)), aR, e, (by first | (simp only [bC, wC, List.length_set]; done) | (simp only [bC, wC, List.length_set, ← a0]; done) | (simp; done) | (simp; omega) | omega), i⟩
def qcp.vc (b : Int) (w : World) (K : VK) : Prop :=
  Cl 78 #[(iv b), (iv 0), (iv 100)] w fun c d => (∃ (a : Bool), c = (.bool a) ∧ K (.bool a) d)

def qcp.ann : Ann := (.seq .l (.seq .l .l))

theorem qcp.con {a : Int} {r : Bool} {w : World} (b : r = M.qcp a)  :
    Cl 87 #[(iv a)] w (fun c d => c = (.bool r) ∧ Ext w d) := by
 have H := wp.qcp.math a
 refine begK mixed Tryz.f87 ann (vc a) ?_
 unfold vc
 unfold wp.qcp at H
 obtain ⟨e, f, H⟩ := qaf H
 refine (qah.con f ).mono ?_
 rintro _ i ⟨rfl, g⟩
 have h := qac (Ext.refl w) g
 refine ⟨e, rfl, ?_⟩
 cases b.trans H.symm
 exact ⟨rfl, h⟩
def qaR.vc (a : Int) (b : Addr) (w : World) (K : VK) : Prop :=
  ldI w (b.add 0) fun c => K (.tuple #[(iv (wrap .i64 (a * c))), (.bool (decide (a < 9000)))]) w

def qaR.ann : Ann := (.seq .l (.seq .l .l))

theorem qaR.con {b c : Int} {d : Nat} {r : Int × Bool} {w : World} (e : r = M.qaR b c) (f : Blk w d 3 #[(iv c)]) :
    Cl 145 #[(iv b), (.pointer (some (bx d)))] w (fun g h => g = (.tuple #[(iv r.1), (.bool r.2)]) ∧ Ext w h) := by
 have H := wp.qaR.math b c
 have i := Ext.refl w
 refine begK mixed Tryz.f145 ann (vc b (bx d)) ?_
 unfold vc
 unfold wp.qaR at H
 refine ⟨_, (f.a 0), ?_⟩
 cases e.trans H.symm
 exact ⟨rfl, i⟩
def qbj.vc (a : Int) (w : World) (K : VK) : Prop :=
  K (.tuple #[]) w

def qbj.ann : Ann := .l

theorem qbj.con {a : Int} {r : Unit} {w : World} (b : r = M.qbj a)  :
    Cl 89 #[(iv a)] w (fun c d => c = (.tuple #[]) ∧ Ext w d) := by
 have H := wp.qbj.math a
 have e := Ext.refl w
 refine begK mixed Tryz.f89 ann (vc a) ?_
 unfold vc
 unfold wp.qbj at H
 cases b.trans H.symm
 exact ⟨rfl, e⟩
def qao.vc (b : Addr) (h : Nat) (i : Array Value) (j : Nat) (k : Array Value) (w : World) (K : VK) : Prop :=
  qdS (σ := Int × Unit) (fun c l m => Cl h (#[(iv c.1)] ++ i) l fun n a => (∃ o : Value, (∃ (d : Int), o = (iv d) ∧ ∃ p : Value, (∃ (f : Bool), p = (.bool f) ∧ n = (.tuple #[(iv d), (.bool f)]) ∧ qa1 (!f) (K (iv c.1) a) (qa1 (decide (d < 0)) (K (iv c.1) a) (ldI a ((b.add 4).add 0) fun q => qa1 (q == 100000) (K (iv c.1) a) (ldS a (b.add 0) fun r s t => ldS a (b.add 1) fun u v x => ldS a (b.add 2) fun y z A => ldI a (b.add 3) fun B => ldI a (b.add 4) fun C => Cl 81 #[(.agg (vB r s t u v x y z A B C)), (iv d)] a fun D g => (∃ (e : Int), D = (iv e) ∧ qa1 (decide (e < 0)) (K (iv c.1) g) (Cl j (#[(iv e)] ++ k) g fun E F => (E = (.tuple #[]) ∧ Cl 70 #[(.pointer (some b)), (iv e)] F fun G H => (∃ (I : Bool), G = (.bool I) ∧ m ((wrap .i64 (c.1 + 1)), ()) H))))))))))) (0, ()) w

def qao.ann : Ann := (.seq .l (.seq .l (.one (.loop [(7, .int .i64)] (.seq (.one (.seq .l (.seq (.seq .l (.two (.seq .l .l) .l)) (.seq .l (.seq (.seq .l (.two (.seq .l .l) .l)) (.seq .l .l)))))) .l)))))

theorem qao.start {p0 : Addr} {f1 : Nat} {cap1 : Array Value} {f2 : Nat} {cap2 : Array Value} {w : World} {K : Value → World → Prop} (h : qao.vc p0 f1 cap1 f2 cap2 w K) : Cl 82 #[(.pointer (some p0)), (.func (.func f1) #[] cap1), (.func (.func f2) #[] cap2)] w K :=
  qdG mixed (fn := Tryz.f82) (by kernel_rfl) (by kernel_rfl) (an := qao.ann) (args := [(.pointer (some p0)), (.func (.func f1) #[] cap1), (.func (.func f2) #[] cap2)]) (Eq.mpr (by kernel_rfl) h)

theorem qao.con {d : D.Block} {A : Int} {s J Q y z : Nat} {B n k : OA} {o : Nat → Prop} {r : Int × D.Block} {w : World} (hp : M.qcz d A) (K : r = M.qao d A) (b : Blk w s 33 (bC B J n Q k y d)) (R : Row el84 w B d.Code) (Z : d.Code.length ≤ J) (O3 : OwnW 52 el91 el3 w 0 o n Q d.Warps) (f : Own el3 w 0 k y d.Memory) (l : Blk w z 3 #[(iv A)]) (a8 : Dis (InW n o) (InB k)) (S : ¬ (fun e => InW n o e ∨ InB k e ∨ e = s) z) (C : d.Code ≠ [] → ∀ g, InB B g → ¬ (fun e => InW n o e ∨ InB k e ∨ e = s) g) :
    Cl 82 #[(.pointer (some (bx s))), (.func (.func 145) #[] #[(.pointer (some (bx z)))]), (.func (.func 89) #[] #[])] w (fun v_ p => ∃ (T : OA) (a0 : Nat) (a1 : Nat → Prop), v_ = (iv r.1) ∧ Blk p s 33 #[(sv B r.2.Code.length J), (sv T r.2.Warps.length a0), (sv k d.Memory.length y), (iv r.2.Waiting), (iv r.2.Phase)] ∧ r.2.Code = d.Code ∧ OwnW 52 el91 el3 p 0 a1 T a0 r.2.Warps ∧ MovW w (InW n o) (InW T a1) ∧ Own el3 p 0 k y r.2.Memory ∧ r.2.Memory.length = d.Memory.length ∧ Chg (fun e => InW n o e ∨ InB k e ∨ e = s) w p) := by
 have H := wp.qao.math d A hp
 have i := Chg.refl (fun e => InW n o e ∨ InB k e ∨ e = s) w
 refine qao.start ?_
 unfold vc
 unfold wp.qao at H
 have a9 := MovW.refl w (InW n o)
 obtain ⟨aa, ⟨ab, ac⟩, a2⟩ := H
 refine ⟨fun m_ z_ p => ∃ (U : Int) (L : List D.Warp) (V W : Int) (N : List Int) (q : OA) (v : Nat) (t : Nat → Prop), z_ = (U, ()) ∧ aa m_ (U, L, V, W, N, ()) ∧ Chg (fun e => InW n o e ∨ InB k e ∨ e = s) w p ∧ Blk p s 33 #[(sv B d.Code.length J), (sv q L.length v), (sv k d.Memory.length y), (iv V), (iv W)] ∧ OwnW 52 el91 el3 p 0 t q v L ∧ MovW w (InW n o) (InW q t) ∧ Own el3 p 0 k y N ∧ d.Memory.length = N.length ∧ Blk p z 3 #[(iv A)] ∧ Dis (InW q t) (InB k) ∧ ¬ InW q t z, ⟨ab, 0, d.Warps, d.Waiting, d.Phase, d.Memory, n, Q, o, rfl, ac, i, b, O3, a9, f, (by first | rfl | assumption | omega | (simp; done) | (simp; omega) | (simp; assumption)), l, a8, (fun c => S (Or.inl c))⟩, ?_⟩
 rintro ad _ aB ⟨U, L, V, W, N, q, v, t, rfl, a3, i, b, m, x, f, u, l, a4, a5⟩
 have H := a2 ad _ a3
 clear a2 a3
 try dsimp only at H ⊢
 obtain ⟨O, ae, H⟩ := qaf H
 refine (qhB (l1 := [_]) (l2 := [_]) (qaR.con ae l)).mono ?_
 rintro _ aC ⟨rfl, E⟩
 have b := b.ext E
 have f := f.ext E
 have l := l.ext E
 have m := m.ext E
 have i := i.then E
 refine ⟨(iv O.1), O.1, rfl, (.bool O.2), O.2, rfl, rfl, ?_⟩
 apply brc H<;>intro h H
 ·cases K.trans H.symm
  exact ⟨q, v, t, rfl, b, rfl, (m.mono (Nat.zero_le _)), x, f, (by first | (simp only [bC, wC, List.length_set]; done) | (simp only [bC, wC, List.length_set, ← u]; done) | (simp; done) | (simp; omega) | omega), i⟩
 apply brc H<;>intro h H
 ·cases K.trans H.symm
  exact ⟨q, v, t, rfl, b, rfl, (m.mono (Nat.zero_le _)), x, f, (by first | (simp only [bC, wC, List.length_set]; done) | (simp only [bC, wC, List.length_set, ← u]; done) | (simp; done) | (simp; omega) | omega), i⟩
 refine ⟨_, (b.a 4), ?_⟩
 apply brc H<;>intro h H
 ·cases K.trans H.symm
  exact ⟨q, v, t, rfl, b, rfl, (m.mono (Nat.zero_le _)), x, f, (by first | (simp only [bC, wC, List.length_set]; done) | (simp only [bC, wC, List.length_set, ← u]; done) | (simp; done) | (simp; omega) | omega), i⟩
 refine ⟨_, _, _, (b.a 0), _, _, _, (b.a 1), _, _, _, (b.a 2), _, (b.a 3), _, (b.a 4), ?_⟩
 obtain ⟨af, H⟩ := H
 obtain ⟨ag, ah, H⟩ := qaf H
 refine (qho (by first | (simp only [bC, wC, List.length_set, ← u]; done) | (simp; done)) (qb7.con af ah (R.chgS i C) Z m.row m.le f.row f.le)).mono ?_
 rintro _ aD ⟨rfl, F⟩
 have b := b.ext F
 have f := f.ext F
 have l := l.ext F
 have m := m.ext F
 have i := i.then F
 refine ⟨ag, rfl, ?_⟩
 apply brc H<;>intro h H
 ·cases K.trans H.symm
  exact ⟨q, v, t, rfl, b, rfl, (m.mono (Nat.zero_le _)), x, f, (by first | (simp only [bC, wC, List.length_set]; done) | (simp only [bC, wC, List.length_set, ← u]; done) | (simp; done) | (simp; omega) | omega), i⟩
 obtain ⟨aE, ai, H⟩ := qaf H
 refine (qbj.con ai ).mono ?_
 rintro _ aF ⟨rfl, G⟩
 have b := b.ext G
 have f := f.ext G
 have l := l.ext G
 have m := m.ext G
 have i := i.then G
 refine ⟨rfl, ?_⟩
 obtain ⟨aj, H⟩ := H
 obtain ⟨ak, al, H⟩ := qaf H
 refine (qba.con aj al (by first | exact b | (simp only [bC, wC, List.length_set, ← u]; exact b)) (R.chgS i C) Z (m.mono (Nat.zero_le _)) (f.mono (Nat.zero_le _)) a4 (fun P => (fun g c => (fun j => j.elim ((fun g c j => ((x _ j).elim (fun I => Or.inr (Or.inl I)) Or.inl).elim (fun am => Nat.not_le.2 (R.old P g c) am) (C P g c)) g c) (fun j => j.elim ((fun g c j => C P g c (Or.inr (Or.inl j))) g c) ((fun g c j => C P g c (Or.inr (Or.inr j))) g c)))))).mono ?_
 rintro _ aG ⟨an, ao, ap, rfl, X, aq, Q8, Y, Q4, a6, a7⟩
 simp only [bC, wC, aq] at X
 simp only [bC, wC, List.length_set, ← u] at X
 try dsimp only at a6
 have ar := x.trans Y i.size
 have au := Y.dis a4 f.oldA
 have av := fun c => (Y _ c).elim a5 (fun I => absurd l.lt (Nat.not_lt.2 I))
 have l := l.chgS a7 (fun j => j.elim a5 (fun j => j.elim ((show Apart k z from fun a_ aw ax => S (Or.inr (Or.inl ⟨a_, aw, ax⟩)))).inb ((fun c => S (Or.inr (Or.inr c))))))
 have i := i.chg a7 (fun g => (fun j => j.elim ((fun g c => ((x _ c).elim (fun I => Or.inr (Or.inl I)) Or.inl)) g) (fun j => j.elim ((fun g c => (Or.inr (Or.inr (Or.inl c)))) g) ((fun g c => Or.inr (Or.inr (Or.inr c))) g))))
 have b := X
 have f := Q4
 have O8 := Q8
 refine ⟨ak.1, rfl, ?_⟩
 obtain ⟨ay, az, aA⟩ := H
 exact ⟨ay, az, _, _, _, _, _, an, ao, ap, rfl, aA, i, (by first | exact b | (simp only [bC, wC, List.length_set, ← u, a6]; exact b)), O8, ar, f, (by first | rfl | assumption | omega | (simp; done) | (simp; omega) | (simp; assumption)), l, au, av⟩
def qaH.vc (b : Addr) (c : Int) (d : Nat) (e : Array Value) (w : World) (K : VK) : Prop :=
  newK w (.cells #[(iv c)] 3) fun f g => Cl 82 #[(.pointer (some b)), (.func (.func 145) #[] #[(.pointer (some (bx f)))]), (.func (.func d) #[] e)] g fun h i => (∃ (a : Int), h = (iv a) ∧ K (iv a) i)

def qaH.ann : Ann := (.seq .l (.seq .l .l))

theorem qaH.start {p0 : Addr} {x1 : Int} {f2 : Nat} {cap2 : Array Value} {w : World} {K : Value → World → Prop} (h : qaH.vc p0 x1 f2 cap2 w K) : Cl 88 #[(.pointer (some p0)), (iv x1), (.func (.func f2) #[] cap2)] w K :=
  qdG mixed (fn := Tryz.f88) (by kernel_rfl) (by kernel_rfl) (an := qaH.ann) (args := [(.pointer (some p0)), (iv x1), (.func (.func f2) #[] cap2)]) (Eq.mpr (by kernel_rfl) h)

theorem qaH.con {c : D.Block} {i u z m : Nat} {n e f : OA} {h : Nat → Prop} {o : Int} {r : Int × D.Block} {w : World} (G : M.qdz c o) (I : r = M.qaH c o) (j : Blk w i 33 (bC n u e z f m c)) (J : Row el84 w n c.Code) (K : c.Code.length ≤ u) (p : OwnW 52 el91 el3 w 0 h e z c.Warps) (k : Own el3 w 0 f m c.Memory) (L : Dis (InW e h) (InB f)) (q : c.Code ≠ [] → ∀ g, InB n g → ¬ (fun d => InW e h d ∨ InB f d ∨ d = i) g) :
    Cl 88 #[(.pointer (some (bx i))), (iv o), (.func (.func 89) #[] #[])] w (fun N s => ∃ (v : OA) (A : Nat) (B : Nat → Prop), N = (iv r.1) ∧ Blk s i 33 #[(sv n r.2.Code.length u), (sv v r.2.Warps.length A), (sv f c.Memory.length m), (iv r.2.Waiting), (iv r.2.Phase)] ∧ r.2.Code = c.Code ∧ OwnW 52 el91 el3 s 0 B v A r.2.Warps ∧ MovW w (InW e h) (InW v B) ∧ Own el3 s 0 f m r.2.Memory ∧ r.2.Memory.length = c.Memory.length ∧ Chg (fun d => InW e h d ∨ InB f d ∨ d = i) w s) := by
 have H := wp.qaH.math c o G
 refine qaH.start ?_
 unfold vc
 unfold wp.qaH at H
 have C := MovW.refl w (InW e h)
 refine qbx (fun a4 a5 x O t => ?_)
 have P := j.ne x
 have Q := p.qeP x
 have R := k.qbI x
 have j := j.ext t
 have p := p.ext t
 have k := k.ext t
 have l := (Chg.refl (fun d => InW e h d ∨ InB f d ∨ d = i) w).then t
 obtain ⟨S, H⟩ := H
 obtain ⟨T, U, H⟩ := qaf H
 refine (qao.con S U j (J.chgS l q) K (p.mono (Nat.zero_le _)) (k.mono (Nat.zero_le _)) O L (fun a => a.elim Q (fun a => a.elim (R).inb ((P).symm))) (fun y => (fun g b => (fun a => a.elim ((fun g b a => q y g b (Or.inl a)) g b) (fun a => a.elim ((fun g b a => q y g b (Or.inr (Or.inl a))) g b) ((fun g b a => q y g b (Or.inr (Or.inr a))) g b)))))).mono ?_
 rintro _ a6 ⟨V, W, X, rfl, E, Y, Z, a0, Q4, F, a1⟩
 simp only [bC, wC, Y] at E
 try dsimp only at F
 have a2 := C.trans a0 l.size
 have l := l.chg a1 (fun g => (fun a => a.elim ((fun g b => ((C _ b).elim (fun a3 => Or.inr (Or.inl a3)) Or.inl)) g) (fun a => a.elim ((fun g b => (Or.inr (Or.inr (Or.inl b)))) g) ((fun g b => Or.inr (Or.inr (Or.inr b))) g))))
 have j := E
 have k := Q4
 have O6 := Z
 refine ⟨T.1, rfl, ?_⟩
 cases I.trans H.symm
 exact ⟨V, W, X, rfl, j, rfl, (O6.mono (Nat.zero_le _)), a2, k, (by first | (simp only [bC, wC, List.length_set]; done) | (simp only [bC, wC, List.length_set, F]; done) | (simp; done) | (simp; omega) | omega), l⟩
def qb5.vc (B : OA) (C D : Nat) (E : OA) (F G : Nat) (H : OA) (I J : Nat) (L M e : Int) (w : World) (K : VK) : Prop :=
  newK w (.cells (vB B C D E F G H I J L M) 33) fun f N => newK N (.cells zC 33) fun a g => ldB g (bx f) fun O P Q R S T U V W X Y => Cl 69 #[(.agg (vB O P Q R S T U V W X Y))] g fun Z a0 => (∃ (h : OA) (i j : Nat), True ∧ ∃ (k : OA) (l m : Nat), True ∧ ∃ (n : OA) (o p : Nat), True ∧ ∃ (q : Int), True ∧ ∃ (r : Int), True ∧ Z = (.agg (vB h i j k l m n o p q r)) ∧ newK a0 (.cells zC 33) fun b a1 => qae (bx b) [(sv h i j), (sv k l m), (sv n o p), (iv q), (iv r)] 0 a1 fun s => ldB s (bx f) fun a2 a3 a4 a5 a6 a7 a8 a9 aa ab ac => Cl 32 #[(.agg (vB a2 a3 a4 a5 a6 a7 a8 a9 aa ab ac))] s fun ad c => (∃ (t : Bool), ad = (.bool t) ∧ qa1 (!t) (ldB c (bx b) fun ae af ag ah ai aj ak al am an ao => qae (bx a) [(sv ae af ag), (sv ah ai aj), (sv ak al am), (iv an), (iv ao)] 0 c fun u => ldB u (bx a) fun ap aq ar au av aw ax ay az aA aB => K (.tuple #[(.agg (vB ap aq ar au av aw ax ay az aA aB)), (iv (-1))]) u) (Cl 87 #[(iv e)] c fun aC d => (∃ (v : Bool), aC = (.bool v) ∧ qa1 (!v) (ldB d (bx b) fun aD aE aF aG aH aI aJ aK aL aM aN => qae (bx a) [(sv aD aE aF), (sv aG aH aI), (sv aJ aK aL), (iv aM), (iv aN)] 0 d fun x => ldB x (bx a) fun aO aP aQ aR aS aT aU aV aW aX aY => K (.tuple #[(.agg (vB aO aP aQ aR aS aT aU aV aW aX aY)), (iv (-1))]) x) (Cl 88 #[(.pointer (some (bx b))), (iv e), (.func (.func 89) #[] #[])] d fun aZ y => (∃ (z : Int), aZ = (iv z) ∧ ldB y (bx b) fun b0 b1 b2 b3 b4 b5 b6 b7 b8 b9 ba => qae (bx a) [(sv b0 b1 b2), (sv b3 b4 b5), (sv b6 b7 b8), (iv b9), (iv ba)] 0 y fun A => ldB A (bx a) fun bb bc bd be bf bg bh bi bj bk bl => K (.tuple #[(.agg (vB bb bc bd be bf bg bh bi bj bk bl)), (iv z)]) A))))))

def qb5.ann : Ann := (.seq .l (.seq .l (.seq (.seq .l (.two (.seq .l .l) .l)) (.seq .l (.seq .l .l)))))

theorem qb5.con {k : D.Block} {P Q R : OA} {S T U : Nat} {C : Int} {r : D.Block × Int} {w : World} (hp : M.qcV k C) (V : r = M.qb5 k C) (a4 : Row el84 w P k.Code) (a5 : k.Code.length ≤ S) (a6 : RowW 52 el91 el3 w Q k.Warps) (a7 : k.Warps.length ≤ T) (a8 : Row el3 w R k.Memory) (a9 : k.Memory.length ≤ U) :
    Cl 39 #[(.agg (bC P S Q T R U k)), (iv C)] w (fun v_ G => ∃ (aa : OA) (ab : Nat) (W : OA) (ac : Nat) (ad : Nat → Prop) (X : OA) (ae : Nat), v_ = (.tuple #[(.agg (bC aa ab W ac X ae r.1)), (iv r.2)]) ∧ Own el84 G w.heap.size aa ab r.1.Code ∧ OwnW 52 el91 el3 G w.heap.size ad W ac r.1.Warps ∧ Own el3 G w.heap.size X ae r.1.Memory ∧ Dis (InW W ad) (InB X) ∧ Ext w G) := by
 have H := wp.qb5.math k C hp
 refine begK mixed Tryz.f39 ann (vc P k.Code.length S Q k.Warps.length T R k.Memory.length U k.Waiting k.Phase C) ?_
 unfold vc
 unfold wp.qb5 at H
 refine qbx (fun aI aJ L4 i al => ?_)
 have b := qac (Ext.refl w) al
 refine qbx (fun aK aL E Y af => ?_)
 have i := i.ext af
 have c := Y
 have E := Nat.le_trans b.size E
 have b := qac b af
 refine ⟨_, _, _, (i.a 0), _, _, _, (i.a 1), _, _, _, (i.a 2), _, (i.a 3), _, (i.a 4), ?_⟩
 obtain ⟨am, H⟩ := H
 obtain ⟨m, an, H⟩ := qaf H
 refine (qbS.con am an (a4.ext b) a5 (a6.ext b) a7 (a8.ext b) a9).mono ?_
 rintro _ aM ⟨p, q, v, x, ag, s, t, rfl, P6, P7, P8, I, Z⟩
 have a0 := P6.qaI c.lt
 have a1 := P7.qhm c (Nat.le_refl _)
 have J := P8.qaI c.lt
 have i := i.ext Z
 have c := c.ext Z
 have d := P6.mono b.size
 have j := P7.mono b.size
 have f := P8.mono b.size
 have b := qac b Z
 refine ⟨p, m.Code.length, q, trivial, v, m.Warps.length, x, trivial, s, m.Memory.length, t, trivial, m.Waiting, trivial, m.Phase, trivial, rfl, ?_⟩
 refine qbx (fun aN aO n P9 y => ?_)
 have ao := i.ne n
 have ah := c.ne n
 have a2 := d.qbI n
 have ap := j.qeP n
 have aq := f.qbI n
 have d := d.ext y
 have f := f.ext y
 have e := P9
 have n := Nat.le_trans b.size n
 have b := qac b y
 refine qd9 e (o := 0) (cs' := (bC p q v x s t m)) rfl rfl (Nat.le_of_ble_eq_true rfl) rfl (fun aP e z => ?_)
 have i := (i.ext y).chg z ao
 have ar := d.chg z a2
 have au := f.chg z aq
 have b := echg b z n
 refine ⟨_, _, _, (i.a 0), _, _, _, (i.a 1), _, _, _, (i.a 2), _, (i.a 3), _, (i.a 4), ?_⟩
 obtain ⟨av, H⟩ := H
 obtain ⟨aw, ax, H⟩ := qaf H
 refine (qbr.con av ax (a4.ext b) a5 (a6.ext b) a7 (a8.ext b) a9).mono ?_
 rintro _ aQ ⟨rfl, A⟩
 have c := ((c.ext y).chg z ah).ext A
 have d := ar.ext A
 have j := ((j.ext y).chg z ap).ext A
 have f := au.ext A
 have e := e.ext A
 have b := qac b A
 refine ⟨aw, rfl, ?_⟩
 apply brc H<;>intro h H
 ·refine ⟨_, _, _, (e.a 0), _, _, _, (e.a 1), _, _, _, (e.a 2), _, (e.a 3), _, (e.a 4), ?_⟩
  refine qd9 c (o := 0) (cs' := (bC p q v x s t m)) rfl rfl (Nat.le_of_ble_eq_true rfl) rfl (fun aR c K => ?_)
  have d := d.chg K a0
  have j := j.chg K a1
  have f := f.chg K J
  have b := echg b K E
  refine ⟨_, _, _, (c.a 0), _, _, _, (c.a 1), _, _, _, (c.a 2), _, (c.a 3), _, (c.a 4), ?_⟩
  cases V.trans H.symm
  exact ⟨p, q, v, x, ag, s, t, rfl, d, j, f, I, b⟩
 obtain ⟨ay, az, H⟩ := qaf H
 refine (qcp.con az ).mono ?_
 rintro _ aS ⟨rfl, B⟩
 have c := c.ext B
 have d := d.ext B
 have j := j.ext B
 have f := f.ext B
 have e := e.ext B
 have b := qac b B
 refine ⟨ay, rfl, ?_⟩
 apply brc H<;>intro h H
 ·refine ⟨_, _, _, (e.a 0), _, _, _, (e.a 1), _, _, _, (e.a 2), _, (e.a 3), _, (e.a 4), ?_⟩
  refine qd9 c (o := 0) (cs' := (bC p q v x s t m)) rfl rfl (Nat.le_of_ble_eq_true rfl) rfl (fun aT c L => ?_)
  have d := d.chg L a0
  have j := j.chg L a1
  have f := f.chg L J
  have b := echg b L E
  refine ⟨_, _, _, (c.a 0), _, _, _, (c.a 1), _, _, _, (c.a 2), _, (c.a 3), _, (c.a 4), ?_⟩
  cases V.trans H.symm
  exact ⟨p, q, v, x, ag, s, t, rfl, d, j, f, I, b⟩
 obtain ⟨aA, H⟩ := H
 obtain ⟨N, aB, H⟩ := qaf H
 refine (qaH.con aA aB e d.row d.le (j.mono (Nat.zero_le _)) (f.mono (Nat.zero_le _)) I (fun _ => (fun g u => (fun l => l.elim (((j.qhV d (by decide) (by decide) (by decide))).symm g u) (fun l => l.elim (((Own.qaw d f (by decide))).inb g u) ((qcG a2) g u)))))).mono ?_
 rintro _ aU ⟨ai, aj, aC, rfl, Q9, aD, aE, ak, Q8, aF, a3⟩
 simp only [bC, wC, aD] at Q9
 try dsimp only at aF
 have aG := ak.dis I f.oldA
 have aH := ak.low j.lowW b.size
 have c := c.chgS a3 (fun l => l.elim a1 (fun l => l.elim (J).inb (ah)))
 have d := d.chgS a3 (fun g u => (fun l => l.elim (((j.qhV d (by decide) (by decide) (by decide))).symm g u) (fun l => l.elim (((Own.qaw d f (by decide))).inb g u) ((qcG a2) g u))))
 have b := Chg.ext b a3 (fun g => (fun l => l.elim (j.lowW g) (fun l => l.elim (f.low g) ((qfH n) g))))
 have e := Q9
 have F := aE.lift aH
 refine ⟨N.1, rfl, _, _, _, (e.a 0), _, _, _, (e.a 1), _, _, _, (e.a 2), _, (e.a 3), _, (e.a 4), ?_⟩
 refine stB c 0 #[(sv p m.Code.length q), (sv ai N.2.Warps.length aj), (sv s m.Memory.length t), (iv N.2.Waiting), (iv N.2.Phase)] (fun aV Y O => ?_)
 have d := d.chg O a0
 have f := (Q8.up f).chg O J
 have F := F.chg O (F.qes c (by decide) (by decide) (by decide))
 have b := echg b O E
 have c := Y
 refine ⟨_, _, _, (c.a 0), _, _, _, (c.a 1), _, _, _, (c.a 2), _, (c.a 3), _, (c.a 4), ?_⟩
 cases V.trans H.symm
 exact ⟨p, q, ai, aj, aC, s, t, (by first | rfl | (simp; done) | (simp; omega) | (simp [*]; done)), (by first | exact d | (simp only [bC, wC, List.length_set]; exact d)), (by first | exact F | (simp only [bC, wC, List.length_set]; exact F)), (by first | exact f | (simp only [bC, wC, List.length_set]; exact f)), aG, b⟩
def qcf.vc (g : OA) (h i : Nat) (w : World) (K : VK) : Prop :=
  Cl 18 #[(sv g h i)] w fun au a0 => (∃ (a1 : Bool), au = (.bool a1) ∧ qa1 a1 (K (.bool true) a0) (Cl 37 #[(sv g h i)] a0 fun av aw => (∃ (j : OA) (k l : Nat), av = (sv j k l) ∧ Cl 27 #[(sv g h i)] aw fun ax a2 => (∃ (m : OA) (n ay : Nat), ax = (sv m n ay) ∧ (idx 0 n m fun az => ldI a2 ((az.add (((0 : Int).toNat) * 1)).add 0) fun aA => ((3 : Int) ≠ 0 ∧ Cl 38 #[(sv j k l), (iv (wrap .i64 (1 + (Int.tmod aA 3))))] a2 fun aB aC => (∃ aD : Value, (∃ (o : OA) (p q : Nat), True ∧ ∃ (r : OA) (s t : Nat), True ∧ ∃ (u : OA) (v x : Nat), True ∧ ∃ (y : Int), True ∧ ∃ (z : Int), True ∧ aD = (.agg (vB o p q r s t u v x y z)) ∧ ∃ aE : Value, (∃ (A : Bool), aE = (.bool A) ∧ aB = (.tuple #[(.agg (vB o p q r s t u v x y z)), (.bool A)]) ∧ newK aC (.cells zC 33) fun f aF => qae (bx f) [(sv o p q), (sv r s t), (sv u v x), (iv y), (iv z)] 0 aF fun a => qgl (σ := Addr × Int × Unit) (fun a3 => (∃ b : Nat → Prop, ldSM b a (bx f) 0 fun a4 a5 a6 => ldSM b a (bx f) 1 fun a7 a8 a9 => ldSM b a (bx f) 2 fun aa ab ac => ldIM b a (bx f) 3 fun ad => ldIM b a (bx f) 4 fun ae => (idx 1 n m fun aG => ldIM b a (aG.add (((1 : Int).toNat) * 1)) 0 fun af => ((5 : Int) ≠ 0 ∧ ((Cl 39 #[(.agg (vB a4 a5 a6 a7 a8 a9 aa ab ac ad ae)), (iv (Int.tmod af 5))] a.drew fun aH ag => (∃ aI : Value, (∃ (B : OA) (C D : Nat), True ∧ ∃ (E : OA) (F G : Nat), True ∧ ∃ (H : OA) (I J : Nat), True ∧ ∃ (L : Int), True ∧ ∃ (M : Int), True ∧ aI = (.agg (vB B C D E F G H I J L M)) ∧ ∃ aJ : Value, (∃ (N : Int), aJ = (iv N) ∧ aH = (.tuple #[(.agg (vB B C D E F G H I J L M)), (iv N)]) ∧ qaS b a ag ∧ newK ag (.cells zC 33) fun ah ai => qaS b a ai ∧ qae (bx ah) [(sv B C D), (sv E F G), (sv H I J), (iv L), (iv M)] 0 ai fun aj => qaS b a aj ∧ a3 ((bx ah), N, ()) aj)))) ∧ (newK a.drew (.cells zC 33) fun ak al => qaS b a al ∧ Cl 39 #[(.agg (vB a4 a5 a6 a7 a8 a9 aa ab ac ad ae)), (iv (Int.tmod af 5))] al fun aK am => (∃ aL : Value, (∃ (O : OA) (P Q : Nat), True ∧ ∃ (R : OA) (S T : Nat), True ∧ ∃ (U : OA) (V W : Nat), True ∧ ∃ (X : Int), True ∧ ∃ (Y : Int), True ∧ aL = (.agg (vB O P Q R S T U V W X Y)) ∧ ∃ aM : Value, (∃ (Z : Int), aM = (iv Z) ∧ aK = (.tuple #[(.agg (vB O P Q R S T U V W X Y)), (iv Z)]) ∧ qaS b a am ∧ qae (bx ak) [(sv O P Q), (sv R S T), (sv U V W), (iv X), (iv Y)] 0 am fun an => qaS b a an ∧ a3 ((bx ak), Z, ()) an)))) ∧ True))))) fun c ao => qa1 A (Cl 40 #[(sv j k l)] ao fun aN d => (∃ (ap : Bool), aN = (.bool ap) ∧ qa1 ap (qa1 (decide (c.2.1 ≥ 0)) (ldS d (c.1.add 0) fun aO aP aQ => ldS d (c.1.add 1) fun aR aS aT => ldS d (c.1.add 2) fun aU aV aW => ldI d (c.1.add 3) fun aX => ldI d (c.1.add 4) fun aY => Cl 26 #[(.agg (vB aO aP aQ aR aS aT aU aV aW aX aY))] d fun aZ e => (∃ (aq : Bool), aZ = (.bool aq) ∧ qa1 aq (ldS e (c.1.add 0) fun b0 b1 b2 => ldS e (c.1.add 1) fun b3 b4 b5 => ldS e (c.1.add 2) fun b6 b7 b8 => ldI e (c.1.add 3) fun b9 => ldI e (c.1.add 4) fun ba => Cl 25 #[(.agg (vB b0 b1 b2 b3 b4 b5 b6 b7 b8 b9 ba))] e fun bb bc => (∃ (ar : ByteArray), bb = (.string ar) ∧ K (.bool (ByteArray.toList ar == ByteArray.toList (⟨#[]⟩))) bc)) (K (.bool false) e))) (K (.bool false) d)) (K (.bool false) d))) (K (.bool false) ao))))))))))

def qcf.ann : Ann := (.seq .l (.seq (.seq .l (.two (.seq .l .l) .l)) (.seq .l (.seq .l (.seq .l (.cut [(7, .ptr), (8, .int .i64)] .l (.seq .l .l)))))))

theorem qcf.con {u : List Int} {A0 : OA} {c0 : Nat} {r : Bool} {w : World} (hp : M.qel u) (v : r = M.qcf u) (R0 : Row el5 w A0 u) (a6 : u.length ≤ c0) :
    Cl 7 #[(sv A0 u.length c0)] w (fun v_ n => v_ = (.bool r) ∧ Ext w n) := by
 have H := wp.qcf.math u hp
 have b := Ext.refl w
 refine begK mixed Tryz.f7 ann (vc A0 u.length c0) ?_
 unfold vc
 unfold wp.qcf at H
 obtain ⟨aH, aI, H⟩ := qaf H
 refine (qeh.con aI (R0.ext b) a6).mono ?_
 rintro _ bE ⟨rfl, aJ⟩
 have b := qac b aJ
 refine ⟨aH, rfl, ?_⟩
 apply brc H<;>intro h H
 ·cases v.trans H.symm
  exact ⟨rfl, b⟩
 obtain ⟨aK, H⟩ := H
 obtain ⟨av, aL, H⟩ := qaf H
 refine (qbH.con aK aL (R0.ext b) a6).mono ?_
 rintro _ bF ⟨a7, aw, rfl, P2, aM⟩
 have c := P2.mono b.size
 have b := qac b aM
 refine ⟨a7, av.length, aw, rfl, ?_⟩
 obtain ⟨aO, H⟩ := H
 obtain ⟨aP, aQ, H⟩ := qaf H
 refine (qb2.con aO aQ (R0.ext b) a6).mono ?_
 rintro _ bG ⟨aR, aS, rfl, P3, ax⟩
 have c := c.ext ax
 have I := P3.mono b.size
 have b := qac b ax
 refine ⟨aR, aP.length, aS, rfl, ?_⟩
 obtain ⟨⟨ay, az⟩, H⟩ := H
 obtain ⟨aT, aU, aV⟩ := Row.at I.row ay az
 refine ⟨ay, az, aT, aU, _, (aV 0 _ rfl), by decide, ?_⟩
 obtain ⟨aW, H⟩ := H
 obtain ⟨j, aX, H⟩ := qaf H
 refine (qbR.con aW aX c.row c.le).mono ?_
 rintro _ bH ⟨a8, a9, aa, ab, bI, ac, ad, rfl, P4, P5, P6, bJ, ae⟩
 have f := P4.mono b.size
 have g := P5.mono b.size
 have i := P6.mono b.size
 refine ⟨(.agg (bC a8 a9 aa ab ac ad j.1)), a8, j.1.Code.length, a9, trivial, aa, j.1.Warps.length, ab, trivial, ac, j.1.Memory.length, ad, trivial, j.1.Waiting, trivial, j.1.Phase, trivial, rfl, (.bool j.2), j.2, rfl, rfl, ?_⟩
 refine qkc (bC a8 a9 aa ab ac ad j.1) (fun bK aA L7 E x => ?_)
 have c := (c.ext ae).ext x
 have I := (I.ext ae).ext x
 have f := f.ext x
 have g := g.ext x
 have i := i.ext x
 have b := qac (qac b ae) x
 obtain ⟨aY, aZ, H⟩ := qdJ H
 refine ⟨fun z_ n => ∃ (J : List D.Ins) (K : List D.Warp) (L : List Int) (af ag ah : Int) (N : Nat) (O : OA) (ai : Nat) (aj : OA) (ak : Nat) (aB : Nat → Prop) (al : OA) (am : Nat), z_ = ((bx N), ah, ()) ∧ aY (J, K, L, af, ag, ah, ()) ∧ Ext w n ∧ Blk n N 33 #[(sv O J.length ai), (sv aj K.length ak), (sv al L.length am), (iv af), (iv ag)] ∧ w.heap.size ≤ N ∧ Own el84 n w.heap.size O ai J ∧ OwnW 52 el91 el3 n w.heap.size aB aj ak K ∧ Own el3 n w.heap.size al am L ∧ Own el84 n w.heap.size a7 aw av ∧ qd4 a7 O, ?_, ?_⟩
 ·refine ⟨(fun _ => False), _, _, _, noM (E.a 0), _, _, _, noM (E.a 1), _, _, _, noM (E.a 2), _, noM (E.a 3), _, noM (E.a 4), ?_⟩
  obtain ⟨⟨aC, aD⟩, H⟩ := H
  obtain ⟨b0, b1, b2⟩ := Row.at I.row aC aD
  refine ⟨aC, aD, b0, b1, _, ⟨(fun h_ => h_), (b2 0 _ rfl)⟩, by decide, ?_⟩
  refine And.intro ?_ ?_
  ·have H := H.1
   have c := c.ext (Ext.drew _)
   have f := f.ext (Ext.drew _)
   have g := g.ext (Ext.drew _)
   have i := i.ext (Ext.drew _)
   have b := qac b (Ext.drew _)
   have d := (Chg.refl (fun _ => False) aA).then (Ext.drew _)
   obtain ⟨b3, H⟩ := H
   obtain ⟨k, b4, H⟩ := qaf H
   refine (qb5.con b3 b4 f.row f.le g.row g.le i.row i.le).mono ?_
   rintro _ bL ⟨P, Q, R, S, b5, T, U, rfl, aE, b6, b7, bM, an⟩
   have b8 := aN c aE
   have c := c.ext an
   have W := aE.mono b.size
   have X := b6.mono b.size
   have Y := b7.mono b.size
   have b := qac b an
   have d := d.then an
   refine ⟨(.agg (bC P Q R S T U k.1)), P, k.1.Code.length, Q, trivial, R, k.1.Warps.length, S, trivial, T, k.1.Memory.length, U, trivial, k.1.Waiting, trivial, k.1.Phase, trivial, rfl, (iv k.2), k.2, rfl, rfl, qaj d, ?_⟩
   refine qbx (fun b9 bN l ba y => ?_)
   have bb := c.qbI l
   have bc := W.qbI l
   have bd := X.qeP l
   have be := Y.qbI l
   have ao := ba
   have bf := Nat.le_trans d.size l
   have l := Nat.le_trans b.size l
   have b := qac b y
   have d := d.then y
   refine ⟨qaj d, ?_⟩
   refine qd9 ao (o := 0) (cs' := (bC P Q R S T U k.1)) rfl rfl (Nat.le_of_ble_eq_true rfl) rfl (fun bO ao z => ?_)
   have c := (c.ext y).chg z bb
   have W := (W.ext y).chg z bc
   have X := (X.ext y).chg z bd
   have Y := (Y.ext y).chg z be
   have b := echg b z l
   have d := d.chgb z (Or.inl bf)
   refine ⟨qaj d, ?_⟩
   exact ⟨_, _, _, _, _, _, b9, P, Q, R, S, b5, T, U, rfl, H, b, ao, l, W, X, Y, c, b8⟩
  refine And.intro ?_ ?_
  ·have H := H.2.1
   have c := c.ext (Ext.drew _)
   have b := qac b (Ext.drew _)
   have d := (Chg.refl (fun _ => False) aA).then (Ext.drew _)
   refine qbx (fun bg bP A bh B => ?_)
   have bi := c.qbI A
   have c := c.ext B
   have f := (f.ext (Ext.drew _)).ext B
   have g := (g.ext (Ext.drew _)).ext B
   have i := (i.ext (Ext.drew _)).ext B
   have p := bh
   have bj := Nat.le_trans d.size A
   have A := Nat.le_trans b.size A
   have b := qac b B
   have d := d.then B
   refine ⟨qaj d, ?_⟩
   obtain ⟨bk, H⟩ := H
   obtain ⟨m, bl, H⟩ := qaf H
   refine (qb5.con bk bl f.row f.le g.row g.le i.row i.le).mono ?_
   rintro _ bQ ⟨Z, a0, a1, a2, bm, a3, a4, rfl, ap, aF, aG, bR, a5⟩
   have bn := aN c ap
   have bo := ap.qaI p.lt
   have bp := aF.qhm p (Nat.le_refl _)
   have bq := aG.qaI p.lt
   have p := p.ext a5
   have aq := ap.mono b.size
   have ar := aF.mono b.size
   have au := aG.mono b.size
   have b := qac b a5
   have d := d.then a5
   refine ⟨(.agg (bC Z a0 a1 a2 a3 a4 m.1)), Z, m.1.Code.length, a0, trivial, a1, m.1.Warps.length, a2, trivial, a3, m.1.Memory.length, a4, trivial, m.1.Waiting, trivial, m.1.Phase, trivial, rfl, (iv m.2), m.2, rfl, rfl, qaj d, ?_⟩
   refine qd9 p (o := 0) (cs' := (bC Z a0 a1 a2 a3 a4 m.1)) rfl rfl (Nat.le_of_ble_eq_true rfl) rfl (fun bS p C => ?_)
   have c := (c.ext a5).chg C bi
   have aq := aq.chg C bo
   have ar := ar.chg C bp
   have au := au.chg C bq
   have b := echg b C A
   have d := d.chgb C (Or.inl bj)
   refine ⟨qaj d, ?_⟩
   exact ⟨_, _, _, _, _, _, bg, Z, a0, a1, a2, bm, a3, a4, rfl, H, b, p, A, aq, ar, au, c, bn⟩
  exact trivial
 rintro _ bT ⟨J, K, L, af, ag, ah, N, O, ai, aj, ak, aB, al, am, rfl, H, b, e, bU, q, s, t, c, bV⟩
 have H := aZ _ H
 try dsimp only at H ⊢
 apply brc H<;>intro h H
 ·obtain ⟨br, H⟩ := H
  obtain ⟨bs, bt, H⟩ := qaf H
  refine (qbg.con br bt c.row c.le).mono ?_
  rintro _ bW ⟨rfl, F⟩
  have e := e.ext F
  have q := q.ext F
  have s := s.ext F
  have t := t.ext F
  have b := qac b F
  refine ⟨bs, rfl, ?_⟩
  apply brc H<;>intro h H
  ·apply brc H<;>intro h H
   ·refine ⟨_, _, _, (e.a 0), _, _, _, (e.a 1), _, _, _, (e.a 2), _, (e.a 3), _, (e.a 4), ?_⟩
    obtain ⟨bu, H⟩ := H
    obtain ⟨bv, bw, H⟩ := qaf H
    refine (qbC.con bu bw q.row q.le s.row s.le t.row t.le).mono ?_
    rintro _ bX ⟨rfl, G⟩
    have e := e.ext G
    have q := q.ext G
    have s := s.ext G
    have t := t.ext G
    have b := qac b G
    refine ⟨bv, rfl, ?_⟩
    apply brc H<;>intro h H
    ·refine ⟨_, _, _, (e.a 0), _, _, _, (e.a 1), _, _, _, (e.a 2), _, (e.a 3), _, (e.a 4), ?_⟩
     obtain ⟨bz, H⟩ := H
     obtain ⟨bA, bB, H⟩ := qaf H
     refine (qb6.con bz bB q.row q.le s.row s.le t.row t.le).mono ?_
     rintro _ bY ⟨rfl, bD⟩
     have b := qac b bD
     refine ⟨bA, rfl, ?_⟩
     cases v.trans H.symm
     exact ⟨rfl, b⟩
    cases v.trans H.symm
    exact ⟨rfl, b⟩
   cases v.trans H.symm
   exact ⟨rfl, b⟩
  cases v.trans H.symm
  exact ⟨rfl, b⟩
 cases v.trans H.symm
 exact ⟨rfl, b⟩
end Go.V
